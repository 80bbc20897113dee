/- The machine of abstract runs and its soundness; no conditions. -/
import Derived.Test.YtnangdjonghnaaaGreatVEngC
import Derived.RowKit3
set_option linter.unusedVariables false
set_option linter.unusedSimpArgs false
namespace Go.Eng
theorem Ext.grown {g g' : Gh}{w w' : World}{a:af}(h:Ext af.empty g w a g' w'):w.keptBut w' (fun _=>False):=by
 refine⟨h.os,h.output,fun i hi=>?_⟩
 have:=h.gQ i hi fun id o l e=>by rw[af.di] at e;simp at e
 rw[this]
 cases w.heap[i]? with
 | none=>rfl
 | some o=>cases o<;>first | rfl | exact⟨rfl,rfl,rfl,fun _ _=>rfl⟩ | exact .inr ⟨rfl,rfl⟩
theorem dc.calls {P:Program}{f:FuncId}(h:dc P f [] af.empty fun r d=>r=.ret (.sc (.bool true))∧d=af.empty)(w:World):Calls P f #[] w fun e w' => e=.returned (.bool true)∧w.keptBut w' (fun _=>False):=by
 have hi:Inv af.empty ⟨fun _=>none,fun _=>none⟩ w:=⟨fun b c e=>by simp at e,fun id o e=>by rw[af.di] at e;simp at e,fun id i o o' l l' e=>by rw[af.di] at e;simp at e,fun _ _=>rfl⟩
 refine(h _ w #[] (fG.nil _) hi).mono fun e w' ⟨r,d,g', ⟨g,_⟩,a,_,hx⟩=>⟨?_,hx.grown⟩
 subst g
 cases e with
 | returned x=>cases a;rfl
 | panicked c=>exact a.elim
 | outgrown=>exact a.elim
end Go.Eng
namespace Go.Eng
noncomputable section
inductive abP where
 | val (d : Option Nat) (v : AV)
 | put (d : Option Nat) (v : AV) (S : af)
 | pass
def db : St→Option Oper
 | .run _ F _ _=>match F.mode,F.todo with
   | .run,.ops all (i::_)::_=>match Jt all i with
     | some o=>match rP F all o with
       | some true=>some o
       | _=>none
     | none=>none
   | _,_=>none
 | .fE D _=>match D.os with
   | o::_=>match rP D.F D.ops o with
     | some true=>some o
     | _=>none
   | []=>none
 | _=>none
def aq3 : Option Nat→Option Nat→Bool
 | some a,some b=>Nat.beq a b
 | none,none=>true
 | _,_=>false
def Af (s:St)(d:Option Nat):Bool:=
 match db s with
 | some o=>aq3 o.dst d
 | none=>false
def CH : St→Bool
 | .run _ F _ _=>match F.mode,F.todo with
   | .run,.code (.loop _)::_=>true
   | _,_=>false
 | .done _ _=>true
 | .bad _=>true
 | .fork _ _ _=>true
 | _=>false
def aA (v:AV)(b:Option af):St→St
 | .run fn F S k=>match F.todo with
   | .ops all (i::rest)::td=>match Jt all i with
     | some o=>match b with
       | some b=>.run fn (mK F o v all rest td) b k
       | none=>.run fn (mK F o v all rest td) S k
     | none=>.bad 60
   | _=>.bad 60
 | .fE D k=>match D.os,b with
   | o::os,none=>.fE (D.next o os (al D.eH o.after.toList) v D.S.nx [] none) k
   | _,_=>.bad 60
 | _=>.bad 60
def pop (P:Program)(ρ:Operand→Option AV):Op→Option AV
 | .binOp op t x y _=>match ρ x,ρ y with
   | some a,some b=>sQ P op t a b
   | _,_=>none
 | .unOp op _ x=>match ρ x with
   | some a=>K2 op a
   | none=>none
 | .indexAddr t x g=>match ρ x,ρ g with
   | some a,some b=>dG P af.empty t a.pX b
   | _,_=>none
 | .convert e f x=>match ρ x with
   | some a=>As P e f a
   | none=>none
 | .call c=>match c.callee,qA ρ c.args.toList,c.argTypes.toList with
   | .builtin .len,some [x],t::_=>match yn P af.empty t x.pX with
     | some n=>some (.sc (.int .i64 n))
     | none=>none
   | _,_,_=>none
 | _=>none
variable {P : Program} {t : TypeId} {a r : AV}
theorem zm {b:AV}(h:dG P af.empty t a b=some r)(S:af):dG P S t a b=some r:=by
 unfold dG at h ⊢
 split at h<;>try (simp at h;done)
 split at h<;>try (simp at h;done)
 · split at h<;>try (simp at h;done)
   split at h<;>try (simp at h;done)
   · split at h<;>try (simp at h;done)
     rw[af.di] at h;simp at h
   · exact h
 · exact h
theorem QG {lo hi:Option AV}(h:kU P af.empty t a lo hi=some r)(S:af):kU P S t a lo hi=some r:=by
 unfold kU at h ⊢
 split at h<;>try (simp at h;done)
 rotate_left
 · exact h
 split at h
 · split at h<;>try (simp at h;done)
   split at h
   · rw[af.di] at h;simp at h
   · unfold He at h;rw[af.di] at h;simp at h
 · exact h
 · exact h
 · exact h
 · simp at h
variable {n : Nat}
theorem Ka (h:yn P af.empty t a=some n)(S:af):yn P S t a=some n:=by
 unfold yn at h ⊢
 split at h
 all_goals first
  | exact h
  | (rw[af.di] at h;simp at h;done)
  | (simp at h;done)
variable {v : AV}
theorem IY {ρ:Operand→Option AV}{o:Op}(h:pop P ρ o=some v)(S:af):gi P ρ S o=some (.val v S)∧bT o=false∧hU o=none:=by
 unfold pop at h
 split at h<;>try (simp at h;done)
 · split at h<;>try (simp at h;done)
   rename_i a b c g
   refine⟨?_,rfl,rfl⟩
   simp only[gi,c,g]
   split
   · rename_i e f
     simp only[ar] at e f
     subst e;subst f
     simp[sQ] at h
   · rename_i e f
     simp only[ar] at e f
     subst e;subst f
     rw[h];rfl
   · rename_i i
     exact(i a b rfl rfl).elim
 · split at h<;>try (simp at h;done)
   rename_i c
   exact⟨by simp only[gi,c,h,j3],rfl,rfl⟩
 · split at h<;>try (simp at h;done)
   rename_i c g
   exact⟨by simp only[gi,c,g,zm h S,j3],rfl,rfl⟩
 · split at h<;>try (simp at h;done)
   rename_i c
   exact⟨by simp only[gi,c,h,j3],rfl,rfl⟩
 · split at h<;>try (simp at h;done)
   rename_i j hx l
   split at h<;>simp only[ar,reduceCtorEq] at h
   rename_i n i
   subst h
   refine⟨by simp only[gi,uv,hx,j,gl,l,Ka i S],?_,?_⟩
   · simp only[bT,j]
   · simp only[hU,j]
def zf (T:FT)(P:Program)(v:AV)(e:Option af):St→Prop
 | .run _ F S _=>match db (.run default F S .nil) with
   | some o=>match hU o.op,e with
     | some c,none=>match re T F c P with
       | some (g,_,args)=>∀ S,dc P g args S fun r b=>r=.ret v∧b=S
       | none=>False
     | some c,some e=>match re T F c P with
       | some (g,_,args)=>dc P g args S fun r b=>r=.ret v∧b=e
       | none=>False
     | none,none=>pop P F.eval o.op=some v
     | none,some e=>match bT o.op,o.dst with
       | false,some _=>ze P F.eval S o.op=some (.val v e)
       | false,none=>v=.bm []∧ze P F.eval S o.op=some (.skip e)
       | true,_=>False
   | none=>False
 | .fE D _=>match D.os,e with
   | o::_,none=>match hU o.op with
     | some c=>match re T D.F c P with
       | some (g,_,args)=>∀ S,dc P g args S fun r b=>r=.ret v∧b=S
       | none=>False
     | none=>pop P D.F.eval o.op=some v
   | _,_=>False
 | _=>False
def sx (T:FT)(P:Program):Nat→List abP→St→St
 | 0,_,s=>s
 | n+1,[],s=>match CH s with
   | true=>s
   | false=>sx T P n [] (s.step T P)
 | n+1,.val d v::r,s=>match Af s d with
   | true=>sx T P n r (aA v none s)
   | false=>sx T P n (.val d v::r) (s.step T P)
 | n+1,.put d v b::r,s=>match Af s d with
   | true=>sx T P n r (aA v (some b) s)
   | false=>sx T P n (.put d v b::r) (s.step T P)
 | n+1,.pass::r,s=>match CH s with
   | true=>sx T P n r (s.step T P)
   | false=>sx T P n (.pass::r) (s.step T P)
def Jj (T:FT)(P:Program):Nat→List abP→St→Prop
 | 0,_,_=>True
 | n+1,[],s=>match CH s with
   | true=>True
   | false=>Jj T P n [] (s.step T P)
 | n+1,.val d v::r,s=>match Af s d with
   | true=>zf T P v none s∧Jj T P n r (aA v none s)
   | false=>Jj T P n (.val d v::r) (s.step T P)
 | n+1,.put d v b::r,s=>match Af s d with
   | true=>zf T P v (some b) s∧Jj T P n r (aA v (some b) s)
   | false=>Jj T P n (.put d v b::r) (s.step T P)
 | n+1,.pass::r,s=>match CH s with
   | true=>Jj T P n r (s.step T P)
   | false=>Jj T P n (.pass::r) (s.step T P)
section
variable {T : FT} {P : Program} {Qf : ic → af → Prop}
variable {fn : Func} {F : ad} {S : af} {k : cI} {o : Oper}
theorem vX (h:db (.run fn F S k)=some o) :
  F.mode=.run∧∃ all i rest td,F.todo=.ops all (i::rest)::td∧all[i]? = some o∧rP F all o=some true:=by
 simp only[db] at h
 split at h<;>try (simp at h;done)
 rename_i all i rest td c e
 split at h<;>try (simp at h;done)
 rename_i o' b
 split at h<;>simp only[ar,reduceCtorEq] at h
 rename_i f
 subst h
 rw[wP] at b
 exact⟨c,all,i,rest,td,e,b,f⟩
theorem vY {D:sw}(h:db (.fE D k)=some o):∃ os,D.os=o::os∧rP D.F D.ops o=some true:=by
 simp only[db] at h
 split at h<;>try (simp at h;done)
 rename_i o' os b
 split at h<;>simp only[ar,reduceCtorEq] at h
 rename_i c
 subst h
 exact⟨os,b,c⟩
variable {s : St} {d : Option Nat}
theorem Kb (h:Af s d=true):∃ o,db s=some o:=by
 unfold Af at h
 split at h
 · rename_i o e;exact⟨o,e⟩
 · simp at h
theorem tw (N:cF T P){f:Option af}(hh:Af s d=true)(b:zf T P v f s)(h:aJ P Qf (aA v f s)):aJ P Qf s:=by
 obtain⟨o,A⟩:=Kb hh
 cases s with
 | run fn F S k=>
   obtain⟨H,all,i,rest,td,B,m,y⟩:=vX A
   have M:db (.run default F S .nil)=some o:=A
   have I:aJ P Qf (.run fn (F.after o v all rest td) (f.getD S) k):=by
     simp only[aA,B,wP,m] at h
     cases f with
     | none=>simp only[gU] at h;exact h
     | some f=>simp only[gU] at h;exact h
   simp only[zf,M] at b
   cases j:hU o.op with
   | some c=>
     have key:∀ g e args,re T F c P=some (g,e,args)→dc P g args S (fun r C=>r=.ret v∧C=f.getD S)→aJ P Qf (.run fn F S k):=by
       intro g e args w b
       obtain⟨R,J⟩:=mM N j w
       refine aJ.reach (fun G q=>Reach.zS H B m y (gL j) (J S) b fun r C U=>?_) I
       obtain⟨rfl,rfl⟩:=U
       exact q
     cases f with
     | none=>
       rw[j] at b
       simp only at b
       split at b
       · rename_i g e args w;exact key g e args w (b S)
       · exact b.elim
     | some f=>
       rw[j] at b
       simp only at b
       split at b
       · rename_i g e args w;exact key g e args w b
       · exact b.elim
   | none=>
     cases f with
     | none=>
       rw[j] at b
       simp only at b
       obtain⟨K,a2,_⟩:=IY b S
       exact aJ.reach (fun G q=>Reach.Hf H B m y a2 K q) I
     | some f=>
       rw[j] at b
       simp only at b
       split at b
       · rename_i z L
         simp only[mE] at b
         exact aJ.reach (fun G q=>Reach.Hf H B m y z b q) I
       · rename_i z L
         simp only[mE] at b
         obtain⟨rfl,b⟩:=b
         exact aJ.reach (fun G q=>Reach.IP H B m y z b q) I
       · exact b.elim
 | fE D k=>
   obtain⟨os,u,y⟩:=vY A
   have x:=wR D.S.nx D.S.nx
   cases f with
   | some f=>simp only[aA,u] at h;exact h.elim
   | none=>
     simp only[aA,u] at h
     simp only[zf,u] at b
     have O:nh P D.ops o D.F.get ⟨D.S.nx,D.S.nx,.nil⟩ v ⟨D.S.nx,D.S.nx,.nil⟩→aJ P Qf (.fE D k):=by
       intro E
       refine fH.mono (fun Q q=>?_) h
       refine pz.step q u rfl (fun F0 S0 E0 Y v0 ch L V W=>?_)
       have X:=W _ v _ E rfl fun id ob e=>by rw[x] at e;simp at e
       have:=L.news V u (ids:=[]) (nw:=[]) (Eo:=none) E X rfl (.inr rfl) (fun id ob e=>by rw[x] at e;simp at e) (fun id ob e=>by rw[x] at e;simp at e) (fun id e _=>by simp at e) (fun id e _ Z=>by simp at e)
         (fun id ob e=>by simp at e) (.inr ⟨rfl,x⟩)
       exact this
     cases j:hU o.op with
     | some c=>
       rw[j] at b
       simp only at b
       cases w:re T D.F c P with
       | none=>rw[w] at b;exact b.elim
       | some p=>
         obtain⟨g,e,args⟩:=p
         rw[w] at b
         obtain⟨R,J⟩:=mM N j w
         exact O (nh.call y (gL j) (J _) (b _))
     | none=>
       rw[j] at b
       simp only at b
       obtain⟨K,a2,_⟩:=IY b ⟨D.S.nx,D.S.nx,.nil⟩
       exact O (nh.val y a2 K)
 | done r S=>simp[db] at A
 | fork fn k l=>simp[db] at A
 | bad n=>simp[db] at A
theorem Xz (f:cF T P)(c:P.follows .mixedOrders=true):∀(n:Nat) {l:List abP} {s:St},Jj T P n l s→aJ P Qf (sx T P n l s)→aJ P Qf s:=by
 intro n
 induction n with
 | zero=>intro l s _ h;exact h
 | succ n g=>
   intro l s b h
   cases l with
   | nil=>
     simp only[sx,Jj] at b h
     cases e:CH s with
     | true=>rw[e] at h;exact h
     | false=>rw[e] at b h;exact ru f c (g b h)
   | cons x r=>
     cases x with
     | val d v=>
       simp only[sx,Jj] at b h
       cases e:Af s d with
       | true=>rw[e] at b h;exact tw f e b.1 (g b.2 h)
       | false=>rw[e] at b h;exact ru f c (g b h)
     | put d v i=>
       simp only[sx,Jj] at b h
       cases e:Af s d with
       | true=>rw[e] at b h;exact tw f e b.1 (g b.2 h)
       | false=>rw[e] at b h;exact ru f c (g b h)
     | pass=>
       simp only[sx,Jj] at b h
       cases e:CH s with
       | true=>rw[e] at b h;exact ru f c (g b h)
       | false=>rw[e] at b h;exact ru f c (g b h)
theorem u0 (c:cF T P){f:Nat}{args:List AV}(h:aJ P Qf (St.start T f args S)):dc P f args S Qf:=by
 unfold St.start at h
 cases b:FT.look T f with
 | none=>rw[b] at h;exact h.elim
 | some e=>
   rw[b] at h
   obtain⟨t1,t2,_,_⟩:=c f e b
   exact dc.oO e.mask t1 t2 h
variable {F' : ad}
theorem aJ.weaken (i:F'.fn=F.fn)(m:F'.n=F.n)(p:F'.todo=F.todo)(u:F'.defers=F.defers)(y:F'.mode=F.mode)(j:F'.kind=F.kind)(z:F'.cm=F.cm)(l:F'.round=F.round)(A:∀ t f,F'.get t=some f→∃ v,F.get t=some v∧(f=v∨f=.top))(h:aJ P Qf (.run fn F' S k)):aJ P Qf (.run fn F S k):=by
 refine aJ.reach (fun G q=>?_) h
 refine Reach.vD q j i l z fun g w fr cs e hi=>⟨fr,w,g,?_,hi,Ext.refl _ _ _,Steps.refl _ _⟩
 refine⟨by rw[i];exact e.fn,by rw[m];exact e.size,fun t f B=>?_,by rw[p];exact e.todo,by rw[u];exact e.defers,by rw[y];exact e.mode,by rw[j];exact e.kind,by rw[l];exact e.round⟩
 obtain⟨v,a,b⟩:=A t f B
 obtain⟨x,c,d⟩:=e.get t v a
 refine⟨x,c,?_⟩
 rcases b with rfl | rfl
 · exact d
 · exact .top
theorem abG (f:cF T P)(b:P.follows .mixedOrders=true){l:List abP}{c:Func}{e:af}{G:ad→af→Prop}(g:Jj T P n l (.run fn F S (.hole G)))(h:sx T P n l (.run fn F S (.hole G))=.run c F' e (.hole G))(q:Reach P F' e G):Reach P F S G:=
 Xz (Qf:=fun _ _=>False) f b n g (by rw[h];exact q)
end
end
end Go.Eng
namespace Go.Eng
noncomputable section
section
variable (σ : Nat → Nat)
mutual
def AV.ax : AV→AV
 | .sc v=>.sc v
 | .agg cs=>.agg (dW cs)
 | .eG=>.eG
 | .an=>.an
 | .lit es=>.lit (dW es)
 | .eV cs=>.eV (dW cs)
 | .ptr id i j=>.ptr (σ id) i j
 | .aj id o l=>.aj (σ id) o l
 | .dJ id=>.dJ (σ id)
 | .fn f a b=>.fn f (dW a) (dW b)
 | .fq t v=>.fq t v.ax
 | .bm c=>.bm (dW c)
 | .pq id=>.pq (σ id)
 | .clip v=>.clip v.ax
 | .top=>.top
def dW : List AV→List AV
 | []=>[]
 | v::l=>v.ax::dW l
end
end
theorem uR (σ:Nat→Nat)(l:List AV):dW σ l=l.map (AV.ax σ):=by
 induction l with
 | nil=>simp[dW]
 | cons a l c=>simp[dW,c]
theorem aF (σ:Nat→Nat)(l:List AV):(dW σ l).length=l.length:=by rw[uR];simp
theorem iE (σ:Nat→Nat)(l:List AV)(k:Nat):(dW σ l)[k]? = l[k]?.map (AV.ax σ):=by rw[uR];simp
structure jh (σ : Nat → Nat) (g g2 : Gh) : Prop where
 ro : g.ro = g2.ro
 ph : ∀ id, g.ph id = g2.ph (σ id)
theorem AV.fT (σ:Nat→Nat)(v:AV):(v.ax σ).cells=dW σ v.cells:=by
 cases v<;>simp[AV.ax,AV.cells,dW]
theorem VR.ax {σ:Nat→Nat}{g g2:Gh}(h:jh σ g g2){v:AV}{x:Value}(y:VR g v x):VR g2 (v.ax σ) x:=by
 have key:∀ {l:List AV} {k:Nat} {a:AV},(dW σ l)[k]? = some a→∃ b,l[k]? = some b∧a=b.ax σ:=by
   intro l k a e
   rw[iE] at e
   cases m:l[k]? with
   | none=>rw[m] at e;simp at e
   | some b=>rw[m] at e;simp at e;exact⟨b,rfl,e.symm⟩
 induction y with
 | sc hh=>rw[AV.ax];exact .sc hh
 | agg d _ f=>
   rw[AV.ax]
   refine .agg (by rw[aF];exact d) fun k a x e n=>?_
   obtain⟨b,p,rfl⟩:=key e
   exact f k b x p n
 | eG=>rw[AV.ax];exact .eG
 | an=>rw[AV.ax];exact .an
 | @lit es b o sz cap c t z m s _ f=>
   rw[AV.ax]
   have e:=aF σ es
   have:VR g2 (.lit (dW σ es)) (.slice (some ⟨b,o,none⟩) (dW σ es).length cap):=by
    refine .lit (by rw[←h.ro];exact t) ?_ (by rw[e];exact m) (by rw[e];exact s) fun i j G a x p q r=>?_
    · intro a A
      obtain⟨k,B⟩:=List.getElem?_of_mem A
      obtain⟨b,p,rfl⟩:=key B
      rw[AV.fT,aF]
      exact z b (tl p)
    · obtain⟨b,u,rfl⟩:=key p
      rw[AV.fT] at q
      obtain⟨C,D,rfl⟩:=key q
      exact f i j b C x u D r
   rw[e] at this
   exact this
 | gG=>rw[AV.ax,dW];exact .gG
 | eV t m _ f=>
   rw[AV.ax]
   refine .eV (by rw[←h.ro];exact t) (by rw[aF];exact m) fun j a x p q=>?_
   obtain⟨b,u,rfl⟩:=key p
   exact f j b x u q
 | ptr d=>rw[AV.ax];exact .ptr (by rw[←h.ph];exact d)
 | aj d E m=>rw[AV.ax];exact .aj (by rw[←h.ph];exact d) E m
 | ga d m=>rw[AV.ax];exact .ga (by rw[←h.ph];exact d) m
 | dJ d=>rw[AV.ax];exact .dJ (by rw[←h.ph];exact d)
 | fn hx F _ _ f w=>
   rw[AV.ax]
   refine .fn (by rw[aF];exact hx) (by rw[aF];exact F) (fun k a x e n=>?_) (fun k a x e n=>?_)
   · obtain⟨b,p,rfl⟩:=key e;exact f k b x p n
   · obtain⟨b,p,rfl⟩:=key e;exact w k b x p n
 | fq _ f=>rw[AV.ax];exact .fq f
 | bm d _ f=>
   rw[AV.ax]
   refine .bm (by rw[aF];exact d) fun k a x e n=>?_
   obtain⟨b,p,rfl⟩:=key e
   exact f k b x p n
 | pq d=>rw[AV.ax];exact .pq (by rw[←h.ph];exact d)
 | clip _ f=>rw[AV.ax];exact .clip f
 | top=>rw[AV.ax];exact .top
theorem VR.gS {σ:Nat→Nat}{g g2:Gh}(h:jh σ g g2){w:AV}{x:Value}(z:VR g2 w x):∀ {v:AV},w=v.ax σ→VR g v x:=by
 have d:∀ {l:List AV} {k:Nat} {a:AV},l[k]? = some a→(dW σ l)[k]? = some (a.ax σ):=by
   intro l k a e;rw[iE,e];rfl
 induction z with
 | sc hh=>intro v e;cases v<;>simp[AV.ax] at e;subst e;exact .sc hh
 | agg f _ m=>
   intro v e;cases v<;>simp[AV.ax] at e;subst e
   exact .agg (by rw[←f,aF]) fun k a x p q=>m k _ x (d p) q rfl
 | eG=>intro v e;cases v<;>simp[AV.ax] at e;exact .eG
 | an=>intro v e;cases v<;>simp[AV.ax] at e;exact .an
 | @lit es b o sz cap c t A n s _ m=>
   intro v e;cases v<;>simp[AV.ax] at e;subst e
   rename_i es hh
   have e:=aF σ es
   rw[e] at n s ⊢
   refine .lit (by rw[h.ro];exact t) (fun a B=>?_) n s fun i j E a x p q r=>?_
   · obtain⟨k,C⟩:=List.getElem?_of_mem B
     have:=A _ (tl (d C))
     rwa [AV.fT,aF] at this
   · exact m i j _ _ x (d p) (by rw[AV.fT];exact d q) r rfl
 | gG=>intro v e;cases v<;>simp[AV.ax] at e;rename_i es;cases es<;>simp[dW] at e;exact .gG
 | eV t n _ m=>
   intro v e;cases v<;>simp[AV.ax] at e;subst e
   exact .eV (by rw[h.ro];exact t) (by rw[aF] at n;exact n) fun j a x p q=>m j _ x (d p) q rfl
 | ptr f=>intro v e;cases v<;>simp[AV.ax] at e;obtain⟨rfl,rfl,rfl⟩:=e;exact .ptr (by rw[h.ph];exact f)
 | aj f D n=>intro v e;cases v<;>simp[AV.ax] at e;obtain⟨rfl,rfl,rfl⟩:=e;exact .aj (by rw[h.ph];exact f) D n
 | ga f n=>intro v e;cases v<;>simp[AV.ax] at e;obtain⟨rfl,rfl,rfl⟩:=e;exact .ga (by rw[h.ph];exact f) n
 | dJ f=>intro v e;cases v<;>simp[AV.ax] at e;subst e;exact .dJ (by rw[h.ph];exact f)
 | fn hx y _ _ m u=>
   intro v e;cases v<;>simp[AV.ax] at e;obtain⟨rfl,rfl,rfl⟩:=e
   exact .fn (by rw[aF] at hx;exact hx) (by rw[aF] at y;exact y) (fun k a x p q=>m k _ x (d p) q rfl) (fun k a x p q=>u k _ x (d p) q rfl)
 | fq _ m=>intro v e;cases v<;>simp[AV.ax] at e;obtain⟨rfl,rfl⟩:=e;exact .fq (m rfl)
 | bm f _ m=>
   intro v e;cases v<;>simp[AV.ax] at e;subst e
   exact .bm (by rw[←f,aF]) fun k a x p q=>m k _ x (d p) q rfl
 | pq f=>intro v e;cases v<;>simp[AV.ax] at e;subst e;exact .pq (by rw[h.ph];exact f)
 | clip _ m=>intro v e;cases v<;>simp[AV.ax] at e;subst e;exact .clip (m rfl)
 | top=>intro v e;cases v<;>simp[AV.ax] at e;exact .top
def hJ (σ:Nat→Nat)(l:List (Nat×AV)):List (Nat×AV):=l.map fun p=>(p.1,p.2.ax σ)
theorem zV (σ:Nat→Nat)(l:List (Nat×AV))(t:Nat):lk (hJ σ l) t=(lk l t).map (AV.ax σ):=by
 induction l with
 | nil=>simp[hJ,oh]
 | cons a l c=>
   obtain⟨k,v⟩:=a
   simp only[hJ,List.map_cons,gz] at *
   cases Nat.beq k t with
   | true=>rfl
   | false=>exact c
def ak.ax (σ:Nat→Nat):ak→ak
 | .arr sz es=>.arr sz (dW σ es)
 | .mp c=>.mp (c.map fun p=>(p.1.ax σ,p.2.ax σ))
 | .lp st pending fn n mask env params assign body=>.lp st pending fn n mask (hJ σ env) params assign body
 | .df o=>.df o
 | .si s p=>.si s p
 | .mi m since seen=>.mi (σ m) since seen
 | .mz=>.mz
theorem LR.ax {σ:Nat→Nat}{g g2:Gh}(h:jh σ g g2){l:List (Nat×AV)}{tmps:Array Value}(d:LR g l tmps):LR g2 (hJ σ l) tmps:=by
 intro t v e
 rw[zV] at e
 cases c:lk l t with
 | none=>rw[c] at e;simp at e
 | some u=>rw[c] at e;simp at e;subst e;obtain⟨x,a,b⟩:=d t u c;exact⟨x,a,b.ax h⟩
theorem LR.gS {σ:Nat→Nat}{g g2:Gh}(h:jh σ g g2){l:List (Nat×AV)}{tmps:Array Value}(c:LR g2 (hJ σ l) tmps):LR g l tmps:=by
 intro t v e
 obtain⟨x,a,b⟩:=c t (v.ax σ) (by rw[zV,e];rfl)
 exact⟨x,a,b.gS h rfl⟩
theorem sH.ax {σ:Nat→Nat}{g g2:Gh}(h:jh σ g g2){l:Loc}{x:Option Obj}{o:ak}(u:sH g l x o):sH g2 l x (o.ax σ):=by
 cases o with
 | arr sz es=>
   obtain⟨c,t,h1,h2,h3,h4,h5,h6⟩:=u
   refine⟨c,t,h1,h2,h3,by rw[aF];exact h4,?_,?_⟩
   · intro e A
     obtain⟨k,v⟩:=List.getElem?_of_mem A
     rw[iE] at v
     cases f:es[k]? with
     | none=>rw[f] at v;simp at v
     | some b=>rw[f] at v;simp at v;subst v;rw[AV.fT,aF];exact h5 b (tl f)
   · intro i j e a y p q r
     rw[iE] at p
     cases f:es[i]? with
     | none=>rw[f] at p;simp at p
     | some b=>
       rw[f] at p;simp at p;subst p
       rw[AV.fT,iE] at q
       cases w:b.cells[j]? with
       | none=>rw[w] at q;simp at q
       | some d=>rw[w] at q;simp at q;subst q;exact(h6 i j b d y f w r).ax h
 | mp z=>
   obtain⟨es,k,h1,h2,h3,h4⟩:=u
   refine⟨es,k,h1,by simpa using h2,fun i B e p q=>?_,h4⟩
   rw[List.getElem?_map] at p
   cases f:z[i]? with
   | none=>rw[f] at p;simp at p
   | some b=>rw[f] at p;simp at p;subst p;exact⟨(h3 i b e f q).1.ax h,(h3 i b e f q).2.ax h⟩
 | lp st pending fn n mk env params assign body=>
   obtain⟨lo,h1,h2,h3,h4,h5,h6,h7,h8,h9⟩:=u
   exact⟨lo,h1,h2,h3,h4,h5,h6.ax h,h7,h8,h9⟩
 | df o=>exact u
 | si s p=>exact u
 | mi m since seen=>obtain⟨lm,a,b,c⟩:=u;exact⟨lm,by rw[←h.ph];exact a,b,c⟩
 | mz=>exact u
theorem sH.gS {σ:Nat→Nat}{g g2:Gh}(h:jh σ g g2){l:Loc}{x:Option Obj}{o:ak}(d:sH g2 l x (o.ax σ)):sH g l x o:=by
 cases o with
 | arr sz es=>
   obtain⟨c,t,h1,h2,h3,h4,h5,h6⟩:=d
   refine⟨c,t,h1,h2,h3,by rw[aF] at h4;exact h4,?_,?_⟩
   · intro e u
     obtain⟨k,v⟩:=List.getElem?_of_mem u
     have:=h5 (e.ax σ) (tl (by rw[iE,v];rfl))
     rwa [AV.fT,aF] at this
   · intro i j e a y p q r
     exact(h6 i j (e.ax σ) (a.ax σ) y (by rw[iE,p];rfl) (by rw[AV.fT,iE,q];rfl) r).gS h rfl
 | mp w=>
   obtain⟨es,k,h1,h2,h3,h4⟩:=d
   refine⟨es,k,h1,by simpa using h2,fun i f e p q=>?_,h4⟩
   have:=h3 i (f.1.ax σ,f.2.ax σ) e (by rw[List.getElem?_map,p];rfl) q
   exact⟨this.1.gS h rfl,this.2.gS h rfl⟩
 | lp st pending fn n mk env params assign body=>
   obtain⟨lo,h1,h2,h3,h4,h5,h6,h7,h8,h9⟩:=d
   exact⟨lo,h1,h2,h3,h4,h5,h6.gS h,h7,h8,h9⟩
 | df o=>exact d
 | si s p=>exact d
 | mi m since seen=>obtain⟨lm,a,b,c⟩:=d;exact⟨lm,by rw[h.ph];exact a,b,c⟩
 | mz=>exact d
def aC.ax (σ:Nat→Nat):aC→aC
 | .vC id=>.vC (σ id)
 | .nj id=>.nj (σ id)
 | x=>x
def Ag (σ:Nat→Nat)(l:List (AV×Bool)):List (AV×Bool):=l.map fun p=>(p.1.ax σ,p.2)
def de.ax (σ:Nat→Nat):de→de
 | .panicking l=>.panicking (Ag σ l)
 | m=>m
def gx.ax (σ:Nat→Nat):gx→gx
 | .call fn cap args=>.call fn (dW σ cap) (dW σ args)
 | .mf id=>.mf (σ id)
 | .sI bs=>.sI bs
def ad.ax (σ:Nat→Nat)(F:ad):ad:=
 match F with
 | ⟨fn,n,mask,loc,pW,todo,defers,mode,kind,cm,round⟩=>⟨fn,n,mask,hJ σ loc,hJ σ pW,todo.map (aC.ax σ),defers.map (gx.ax σ),mode.ax σ,kind,cm.ax σ,round.map σ⟩
theorem ad.zW (σ:Nat→Nat)(F:ad)(t:Nat):(F.ax σ).get t=(F.get t).map (AV.ax σ):=by
 obtain⟨fn,n,mask,loc,pW,todo,defers,mode,kind,cm,round⟩:=F
 simp only[ad.ax,ad.get]
 cases tb mask t<;>simp only[zV]
section
variable {σ : Nat → Nat} {g g2 : Gh}
theorem fG.ax (h:jh σ g g2){l:List AV}{xs:Array Value}(d:fG g l xs):fG g2 (dW σ l) xs:=by
 refine⟨by rw[aF];exact d.1,fun k a x e f=>?_⟩
 rw[iE] at e
 cases c:l[k]? with
 | none=>rw[c] at e;simp at e
 | some b=>rw[c] at e;simp at e;subst e;exact(d.2 k b x c f).ax h
theorem fG.gS (h:jh σ g g2){l:List AV}{xs:Array Value}(c:fG g2 (dW σ l) xs):fG g l xs:=
 ⟨by rw[←c.1,aF],fun k a x e d=>(c.2 k (a.ax σ) x (by rw[iE,e];rfl) d).gS h rfl⟩
theorem mX.ax (h:jh σ g g2){l:List aC}{m:List Item}(c:mX g l m):mX g2 (l.map (aC.ax σ)) m:=by
 induction c with
 | nil=>exact .nil
 | cons hh _ d=>
   refine .cons ?_ d
   cases hh with
   | vC c=>exact .vC (by rw[←h.ph];exact c)
   | nj c=>exact .nj (by rw[←h.ph];exact c)
   | code=>exact .code
   | inBlock=>exact .inBlock
   | inLoop=>exact .inLoop
   | inScope=>exact .inScope
   | ops=>exact .ops
   | GS=>exact .GS
theorem mX.gS (h:jh σ g g2):∀ {l:List aC} {m:List Item},mX g2 (l.map (aC.ax σ)) m→mX g l m:=by
 intro l
 induction l with
 | nil=>intro m d;cases d;exact .nil
 | cons a l e=>
   intro m d
   simp only[List.map_cons] at d
   cases d with
   | cons hh f=>
     refine .cons ?_ (e f)
     cases a with
     | vC id=>cases hh with | vC d=>exact .vC (by rw[h.ph];exact d)
     | nj id=>cases hh with | nj d=>exact .nj (by rw[h.ph];exact d)
     | code c=>cases hh;exact .code
     | inBlock c=>cases hh;exact .inBlock
     | inLoop c=>cases hh;exact .inLoop
     | inScope c=>cases hh;exact .inScope
     | ops a b=>cases hh;exact .ops
     | GS=>cases hh;exact .GS
theorem hP.ax (h:jh σ g g2){l:List (AV×Bool)}{m:List PanicEntry}(c:hP g l m):hP g2 (Ag σ l) m:=by
 induction c with
 | nil=>exact .nil
 | cons d _ e=>exact .cons (d.ax h) e
theorem hP.gS (h:jh σ g g2):∀ {l:List (AV×Bool)} {m:List PanicEntry},hP g2 (Ag σ l) m→hP g l m:=by
 intro l
 induction l with
 | nil=>intro m c;cases c;exact .nil
 | cons a l d=>
   intro m c
   obtain⟨v,b⟩:=a
   simp only[Ag,List.map_cons] at c
   cases c with
   | cons e f=>exact .cons (e.gS h rfl) (d f)
theorem mg.ax (h:jh σ g g2){a:de}{b:FrameMode}(c:mg g a b):mg g2 (a.ax σ) b:=by
 cases c with
 | run=>exact .run
 | returning=>exact .returning
 | panicking d=>exact .panicking (d.ax h)
theorem mg.gS (h:jh σ g g2){a:de}{b:FrameMode}(c:mg g2 (a.ax σ) b):mg g a b:=by
 cases a with
 | run=>cases c;exact .run
 | returning=>cases c;exact .returning
 | panicking l=>cases c with | panicking d=>exact .panicking (d.gS h)
theorem kB.ax {P:Program}(h:jh σ g g2){l:List gx}{m:List Deferred}(d:kB P g l m):kB P g2 (l.map (gx.ax σ)) m:=by
 induction d with
 | nil=>exact .nil
 | cons e f i _ c=>exact .cons (e.ax h) (f.ax h) i c
 | mf d _ c=>exact .mf (by rw[←h.ph];exact d) c
 | sI _ c=>exact .sI c
theorem kB.gS {P:Program}(h:jh σ g g2):∀ {l:List gx} {m:List Deferred},kB P g2 (l.map (gx.ax σ)) m→kB P g l m:=by
 intro l
 induction l with
 | nil=>intro m c;cases c;exact .nil
 | cons a l e=>
   intro m c
   simp only[List.map_cons] at c
   cases a with
   | call fn cap args=>cases c with | cons f i j d=>exact .cons (f.gS h) (i.gS h) j (e d)
   | mf id=>cases c with | mf c d=>exact .mf (by rw[h.ph];exact c) (e d)
   | sI bs=>cases c with | sI d=>exact .sI (e d)
variable {a b : Option Nat}
theorem pZ.ax (h:jh σ g g2)(c:pZ g a b):pZ g2 (a.map σ) b:=by
 cases a<;>cases b<;>first | exact c | exact c.elim | (obtain⟨l,e,d⟩:=c;exact⟨l,by rw[←h.ph];exact e,d⟩)
theorem pZ.gS (h:jh σ g g2)(c:pZ g2 (a.map σ) b):pZ g a b:=by
 cases a<;>cases b<;>first | exact c | exact c.elim | (obtain⟨l,e,d⟩:=c;exact⟨l,by rw[h.ph];exact e,d⟩)
theorem mW.ax {P:Program}(h:jh σ g g2){F:ad}{fr:Frame}(c:mW P g F fr):mW P g2 (F.ax σ) fr:=by
 refine⟨by cases F;exact c.fn,by cases F;exact c.size,fun t v e=>?_,by cases F;exact c.todo.ax h,by cases F;exact c.defers.ax h,by cases F;exact c.mode.ax h,by cases F;exact c.kind,by cases F;exact pZ.ax h c.round⟩
 rw[ad.zW] at e
 cases d:F.get t with
 | none=>rw[d] at e;simp at e
 | some u=>rw[d] at e;simp at e;subst e;obtain⟨x,a,b⟩:=c.get t u d;exact⟨x,a,b.ax h⟩
theorem mW.gS {P:Program}(h:jh σ g g2){F:ad}{fr:Frame}(c:mW P g2 (F.ax σ) fr):mW P g F fr:=by
 refine⟨by cases F;exact c.fn,by cases F;exact c.size,fun t v e=>?_,by cases F;exact c.todo.gS h,by cases F;exact c.defers.gS h,by cases F;exact c.mode.gS h,by cases F;exact c.kind,by cases F;exact pZ.gS h c.round⟩
 obtain⟨x,a,b⟩:=c.get t (v.ax σ) (by rw[ad.zW,e];rfl)
 exact⟨x,a,b.gS h rfl⟩
theorem uf.ax (h:jh σ g g2){F:ad}{e cs:List Frame}(f:uf g F e cs):uf g2 (F.ax σ) e cs:=by
 cases F
 unfold uf ad.ax at *
 simp only at *
 split at f
 · obtain⟨c,rest,m,a,b,d⟩:=f;exact⟨c,rest,m,a,b,d.ax h⟩
 · exact f
theorem uf.gS (h:jh σ g g2){F:ad}{e cs:List Frame}(f:uf g2 (F.ax σ) e cs):uf g F e cs:=by
 cases F
 unfold uf ad.ax at *
 simp only at *
 split at f
 · obtain⟨c,rest,m,a,b,d⟩:=f;exact⟨c,rest,m,a,b,d.gS h⟩
 · exact f
end
theorem PT.HS (f:Nat→Option ak):∀ n:Nat,∃ t:PT,∀ i,PT.get dep t i=if i<n then f i else none:=by
 intro n
 induction n with
 | zero=>exact⟨.nil,fun i=>by simp[PT.get_nil]⟩
 | succ n c=>
   obtain⟨t,d⟩:=c
   refine⟨PT.set dep t n (f n),fun i=>?_⟩
   by_cases hi:i=n
   · subst hi;rw[PT.bD,if_pos (by omega)]
   · rw[PT.sj _ _ _ _ _ (Ne.symm hi),d]
     by_cases h:i<n
     · rw[if_pos h,if_pos (by omega)]
     · rw[if_neg h,if_neg (by omega)]
structure y9 (σ : Nat → Nat) (S S2 : af) : Prop where
 get : ∀ id o, S.get id = some o → S2.get (σ id) = some (o.ax σ)
 lim : ∀ id, S.lim ≤ id → S2.lim ≤ σ id
 hi : ∀ k, σ (S.nx + k) = S2.nx + k
 lo : ∀ id, id < S.nx → σ id < S2.nx
theorem Reach.ax {P:Program}{σ:Nat→Nat}(Y:∀ a b,σ a=σ b→a=b){F:ad}{S T:af}{G G2:ad→af→Prop}(C:y9 σ S T)(h:Reach P F S G)
  (hG:∀ F' N D,G F' N→y9 σ N D→G2 (F'.ax σ) D):Reach P (F.ax σ) T G2:=by
 intro g2 w fr cs0 cs hf hcs hi
 obtain⟨g,hg⟩:∃ g:Gh,g={ ro:=g2.ro,ph:=fun id=>g2.ph (σ id) }:=⟨_,rfl⟩
 have d:jh σ g g2:=by rw[hg];exact⟨rfl,fun _=>rfl⟩
 have V:Inv S g w:=by
  refine⟨fun b c e=>hi.ro b c (by rw[←d.ro];exact e),fun id o e=>?_,fun id v o o' l l' e Q p p' q=>?_,fun id aQ=>?_⟩
  · obtain⟨l,a,b,c⟩:=hi.ob (σ id) _ (C.get id o e)
    exact⟨l,by rw[d.ph];exact a,by rw[d.ro];exact b,c.gS d⟩
  · exact Y _ _ (hi.inj (σ id) (σ v) _ _ l l' (C.get _ _ e) (C.get _ _ Q) (by rw[←d.ph];exact p) (by rw[←d.ph];exact p') q)
  · rw[d.ph]
    refine hi.fresh _ ?_
    have:=C.hi (id-S.nx)
    rw[show S.nx+(id-S.nx)=id from by omega] at this
    omega
 obtain⟨F', N,g', w', fr', cs', q,p1,p2,p3,p4,p5,p6,B,p8⟩:=h g w fr cs0 cs (hf.gS d) (hcs.gS d) V
 have hnx:=B.nx
 obtain ⟨r,R,A⟩:∃ r:Nat→Option Nat,(∀ id,(S.nx≤id∨∃ o,S.get id=some o)→r (σ id)=some id)∧∀ a id,r a=some id→a=σ id∧(S.nx≤id∨∃ o,S.get id=some o):=by
  classical
  refine⟨fun a=>if h:∃ id,σ id=a∧(S.nx≤id∨∃ o,S.get id=some o) then some (Classical.choose h) else none,fun id hr=>?_,fun a id e=>?_⟩
  · have W:∃ v,σ v=σ id∧(S.nx≤v∨∃ o,S.get v=some o):=⟨id,rfl,hr⟩
    simp only[dif_pos W]
    exact congrArg some (Y _ _ (Classical.choose_spec W).1)
  · by_cases W:∃ v,σ v=a∧(S.nx≤v∨∃ o,S.get v=some o)
    · simp only[dif_pos W] at e
      have:=Classical.choose_spec W
      simp only[ar] at e
      rw[e] at this;exact⟨this.1.symm,this.2⟩
    · simp only[dif_neg W] at e;simp at e
 have hrel:∀ id o,N.get id=some o→(S.nx≤id∨∃ o,S.get id=some o):=by
  intro id o e
  rcases Nat.lt_or_ge id S.nx with u | J
  · cases hx:S.get id with
    | none=>rw[B.dead id u hx] at e;simp at e
    | some o0=>exact .inr ⟨o0,rfl⟩
  · exact .inl J
 obtain⟨n2,hn2⟩:∃ n,n=T.nx+(N.nx-S.nx):=⟨_,rfl⟩
 obtain⟨t,ht⟩:=PT.HS (fun a=>match r a with | some id=>(N.get id).map (ak.ax σ) | none=>T.get a) n2
 obtain⟨D,E⟩:∃ s:af,s=⟨n2,T.lim,t⟩:=⟨_,rfl⟩
 have Z:∀ a,D.get a=if a<n2 then(match r a with | some id=>(N.get id).map (ak.ax σ) | none=>T.get a) else none:=by
  intro a;rw[E];exact ht a
 have hσ:∀ id,id<N.nx→σ id<n2:=by
  intro id aQ
  by_cases hl:id<S.nx
  · have:=C.lo id hl;omega
  · have:=C.hi (id-S.nx)
    rw[show S.nx+(id-S.nx)=id from by omega] at this
    omega
 have get1:∀ id o,N.get id=some o→D.get (σ id)=some (o.ax σ):=by
  intro id o e
  rw[Z,if_pos (hσ id (p6.jy e)),R id (hrel id o e)]
  simp[e]
 have O:∀ a o,D.get a=some o→(∃ id o', a=σ id∧N.get id=some o' ∧ o=o'.ax σ)∨(r a=none∧T.get a=some o):=by
  intro a o e
  rw[Z] at e
  split at e<;>try (simp at e;done)
  cases I:r a with
  | none=>rw[I] at e;exact .inr ⟨rfl,e⟩
  | some id=>
    rw[I] at e
    simp only at e
    cases M:N.get id with
    | none=>rw[M] at e;simp at e
    | some o' => rw[M] at e;simp at e;exact .inl ⟨id,o', (A a id I).1,M,e.symm⟩
 have hsim:y9 σ N D:=by
  refine⟨get1,by rw[B.lim,E];exact C.lim,fun k=>?_,fun id aQ=>by rw[E];exact hσ id aQ⟩
  have:=C.hi (N.nx-S.nx+k)
  rw[show S.nx+(N.nx-S.nx+k)=N.nx+k from by omega] at this
  rw[this,E];show _=n2+k;omega
 obtain⟨K,i⟩:∃ g:Gh,g={ ro:=g'.ro,ph:=fun a=>match r a with | some id=>g'.ph id | none=>g2.ph a }:=⟨_,rfl⟩
 have X:g'.ro=K.ro:=by rw[i]
 have m:jh σ g' K:=by
  refine⟨X,fun id=>?_⟩
  rw[i]
  simp only
  cases I:r (σ id) with
  | some v=>rw[Y _ _ (A _ _ I).1]
  | none=>
    simp only
    rw[←d.ph]
    rcases Nat.lt_or_ge id S.nx with u | J
    · exact B.rM id u
    · rw[R id (.inl J)] at I;simp at I
 have hle:Gh.le g2 K:=by
  refine⟨fun k c e=>?_,fun a l e=>?_⟩
  · rw[←X];exact B.ng.ro k c (by rw[d.ro];exact e)
  · cases I:r a with
    | none=>rw[i];simp only[I];exact e
    | some id=>
      rw[i];simp only[I]
      have:=(A a id I).1
      subst this
      exact B.ng.ph id l (by rw[d.ph];exact e)
 have other:∀ a o l,T.get a=some o→r a=none→g2.ph a=some l→∀ id o', S.get id=some o' → ∀ l', g.ph id=some l' → l'.cd≠l.cd:=by
  intro a o l e H hl id o' Q l' hl' heq
  have:=hi.inj (σ id) a _ o l' l (C.get _ _ Q) e (by rw[←d.ph];exact hl') hl heq
  rw[←this,R id (.inr ⟨o', Q⟩)] at H;simp at H
 have inv' : Inv D K w' := by
  refine⟨fun b c e=>p6.ro b c (by rw[X];exact e),fun a o e=>?_,fun a a' o o' l l' e Q q U M=>?_,fun a H=>?_⟩
  · rcases O a o e with⟨id,o', rfl,Q,rfl⟩ | ⟨H,Q⟩
    · obtain⟨l,x,y,z⟩:=p6.ob id o' Q
      exact⟨l,by rw[←m.ph];exact x,by rw[←X];exact y,z.ax m⟩
    · obtain⟨l,x,y,z⟩:=hi.ob a o Q
      have u:=z.lt
      have hk:w'.heap[l.cd]? = w.heap[l.cd]? := B.gQ l.cd u fun id o' l' f1 _ f3=>other a o l Q H x id o' f1 l' f3
      refine⟨l,hle.ph _ _ x,?_,by rw[hk];exact z.mono hle⟩
      cases hr:K.ro l.cd with
      | none=>rfl
      | some c=>
        rcases B.wC l.cd c (by rw[X];exact hr) u with f | ⟨L,o0,l0,f1,f2,f3,f4⟩
        · rw[d.ro,y] at f;simp at f
        · exact absurd f4 (other a o l Q H x L o0 f1 l0 f3)
  ·
    have mix:∀ id a o o' l l', N.get id=some o→T.get a=some o' → r a=none→K.ph (σ id)=some l→K.ph a=some l' → l.cd=l'.cd→False:=by
      intro id a o o' l l' e Q H q U M
      rw[←m.ph] at q
      have U:g2.ph a=some l' := by rw[i] at U;simp only[H] at U;exact U
      obtain⟨l1,x,y,z⟩:=hi.ob a o' Q
      rw[U] at x;simp only[ar] at x;subst x
      have u:=z.lt
      rcases Nat.lt_or_ge id S.lim with j | j
      · have e0:S.get id=some o:=by rw[←B.sM id j];exact e
        exact other a o' l' Q H U id o e0 l (by rw[←B.rM id (V.jy e0)];exact q) M
      · obtain⟨L,o0,l0,f1,f2,f3,f4⟩:=B.own id o l e j q (by rw[M];exact u)
        exact other a o' l' Q H U L o0 f1 l0 f3 (f4.trans M)
    rcases O a o e with⟨id,o1,rfl,e1,rfl⟩ | ⟨H,e1⟩<;>rcases O a' o' Q with⟨v,o2,rfl,e2,rfl⟩ | ⟨ha', e2⟩
    · rw[p6.inj id v o1 o2 l l' e1 e2 (by rw[m.ph];exact q) (by rw[m.ph];exact U) M]
    · exact(mix id a' _ _ l l' e1 e2 ha' q U M).elim
    · exact(mix v a _ _ l' l e2 e1 H U q M.symm).elim
    · have q1:g2.ph a=some l:=by rw[i] at q;simp only[H] at q;exact q
      have q2:g2.ph a' = some l' := by rw[i] at U;simp only[ha'] at U;exact U
      exact hi.inj a a' o o' l l' e1 e2 q1 q2 M
  · have H:n2≤a:=by rw[E] at H;exact H
    cases I:r a with
    | none=>rw[i];simp only[I];exact hi.fresh a (by omega)
    | some id=>
      have:=(A a id I).1
      rw[i];simp only[I]
      refine p6.fresh id ?_
      rcases Nat.lt_or_ge id N.nx with u | J
      · have:=hσ id u;omega
      · exact J
 have ext' : Ext T g2 w D K w' := by
  refine⟨B.size,B.os,B.tape,B.output,fun b M hne=>B.gQ b M fun id o l e1 e2 e3=>?_,fun a o l e1 e2 e3 e4=>?_,hle,by rw[E];show T.nx≤n2;omega,by rw[E],fun a H=>?_,fun a H=>?_,fun b c e M=>?_,fun a H e=>?_,B.fz⟩
  · exact hne (σ id) _ l (C.get id o e1) (C.lim id e2) (by rw[←d.ph];exact e3)
  · rcases O a o e1 with⟨id,o1,rfl,f,rfl⟩ | ⟨H,f⟩
    · rcases Nat.lt_or_ge id S.lim with j | j
      · have e0:S.get id=some o1:=by rw[←B.sM id j];exact f
        exact⟨σ id,_,l,C.get _ _ e0,e2,by rw[←d.ph,←B.rM id (V.jy e0),m.ph];exact e3,rfl⟩
      · obtain⟨L,o0,l0,f1,f2,f3,f4⟩:=B.own id o1 l f j (by rw[m.ph];exact e3) e4
        exact⟨σ L,_,l0,C.get _ _ f1,C.lim L f2,by rw[←d.ph];exact f3,f4⟩
    · exact⟨a,o,l,f,e2,by rw[i] at e3;simp only[H] at e3;exact e3,rfl⟩
  · rw[Z]
    cases I:r a with
    | none=>
      simp only
      split
      · rfl
      · rename_i J
        cases hx:T.get a with
        | none=>rfl
        | some o=>have:=hi.jy hx;omega
    | some id=>
      simp only
      obtain⟨h1,h2⟩:=A a id I
      have aQ:id<S.lim:=by
        rcases Nat.lt_or_ge id S.lim with j | j
        · exact j
        · have:=C.lim id j;omega
      rw[B.sM id aQ]
      cases hx:S.get id with
      | some o=>rw[if_pos (by have:=C.lo id (V.jy hx);omega),h1,C.get id o hx];rfl
      | none=>
        have J:S.nx≤id:=by
         rcases h2 with h2 | ⟨o,h2⟩
         · exact h2
         · rw[hx] at h2;simp at h2
        have ha2:T.get a=none:=by
         cases hy:T.get a with
         | none=>rfl
         | some o=>
           have h3:=hi.jy hy
           have:=C.hi (id-S.nx)
           rw[show S.nx+(id-S.nx)=id from by omega] at this
           omega
        rw[ha2];simp
  · cases I:r a with
    | none=>rw[i];simp only[I]
    | some id=>
      have:=(A a id I).1
      subst this
      rw[←m.ph,←d.ph]
      refine B.rM id ?_
      rcases Nat.lt_or_ge id S.nx with u | J
      · exact u
      · have:=C.hi (id-S.nx)
        rw[show S.nx+(id-S.nx)=id from by omega] at this
        omega
  · rcases B.wC b c (by rw[X];exact e) M with f | ⟨L,o0,l0,f1,f2,f3,f4⟩
    · exact .inl (by rw[←d.ro];exact f)
    · exact .inr ⟨σ L,_,l0,C.get _ _ f1,C.lim L f2,by rw[←d.ph];exact f3,f4⟩
  · cases M:D.get a with
    | none=>rfl
    | some o=>
      rcases O a o M with⟨id,o1,rfl,f,rfl⟩ | ⟨_,f⟩
      · exfalso
        have aQ:id<S.nx:=by
         rcases Nat.lt_or_ge id S.nx with u | J
         · exact u
         · have:=C.hi (id-S.nx)
           rw[show S.nx+(id-S.nx)=id from by omega] at this
           omega
        have hnone:S.get id=none:=by
         cases hx:S.get id with
         | none=>rfl
         | some o=>rw[C.get id o hx] at e;simp at e
        rw[B.dead id aQ hnone] at f;simp at f
      · rw[e] at f;simp at f
 refine⟨F'.ax σ,D,K,w', fr', cs', hG _ _ _ q hsim,p1.ax m,p2.ax m,?_,?_,?_,inv', ext', p8⟩
 · cases F;cases F';exact p3
 · cases F;cases F';exact p4
 · cases F;cases F';exact congrArg (Option.map σ) p5
end
end Go.Eng
namespace Go.Eng
noncomputable section
def ic.ax (σ:Nat→Nat):ic→ic
 | .ret v=>.ret (v.ax σ)
 | .uh l=>.uh (Ag σ l)
structure sy (A B : ad) : Prop where
 fn : B.fn = A.fn
 n : B.n = A.n
 mask : B.mask = A.mask
 todo : B.todo = A.todo
 defers : B.defers = A.defers
 mode : B.mode = A.mode
 kind : B.kind = A.kind
 cm : B.cm = A.cm
 round : B.round = A.round
 get : ∀ t v', B.get t = some v' → ∃ v, A.get t = some v ∧ (v' = v ∨ v' = .top)
theorem sy.refl (A:ad):sy A A:=⟨rfl,rfl,rfl,rfl,rfl,rfl,rfl,rfl,rfl,fun _ a e=>⟨a,e,.inl rfl⟩⟩
variable {P : Program} {S : af}
theorem sy.reach {A B:ad}{G:ad→af→Prop}(h:sy A B)(q:Reach P B S G):Reach P A S G:=by
 refine Reach.vD q h.kind h.fn h.round h.cm fun g w fr cs e hi=>⟨fr,w,g,?_,hi,Ext.refl _ _ _,Steps.refl _ _⟩
 refine⟨by rw[h.fn];exact e.fn,by rw[h.n];exact e.size,fun t f i=>?_,by rw[h.todo];exact e.todo,by rw[h.defers];exact e.defers,by rw[h.mode];exact e.mode,by rw[h.kind];exact e.kind,by rw[h.round];exact e.round⟩
 obtain⟨v,a,b⟩:=h.get t f i
 obtain⟨x,c,d⟩:=e.get t v a
 refine⟨x,c,?_⟩
 rcases b with rfl | rfl
 · exact d
 · exact .top
theorem ad.FF (F:ad)(t:Nat)(v:AV)(s:Nat):(F.set t v).get s=if s=t∧Nat.ble (t+1) F.n=true then some v else F.get s:=by
 obtain⟨fn,n,mask,loc,pW,todo,defers,mode,kind,cm,round⟩:=F
 simp only[ad.set]
 cases b:Nat.ble (t+1) n with
 | false=>simp
 | true=>
   simp only[and_true]
   by_cases e:s=t
   · subst e
     rw[if_pos rfl]
     cases a:tb mask s with
     | true=>simp only[ad.get,a,tB]
     | false=>simp only[ad.get,a,gz,Nat.beq_refl]
   · rw[if_neg e]
     cases a:tb mask t with
     | true=>
       simp only[ad.get]
       cases tb mask s with
       | true=>simp only[sk _ _ e]
       | false=>rfl
     | false=>
       simp only[ad.get]
       cases c:tb mask s with
       | true=>rfl
       | false=>simp only[gz];rw[show Nat.beq t s=false from by rw[Bool.eq_false_iff];exact fun q=>e (jK q).symm]
theorem ad.C5 (F:ad)(t:Nat)(v:AV):(F.set t v).fn=F.fn∧(F.set t v).n=F.n∧(F.set t v).mask=F.mask∧(F.set t v).todo=F.todo∧(F.set t v).defers=F.defers∧(F.set t v).mode=F.mode∧(F.set t v).kind=F.kind∧(F.set t v).cm=F.cm∧(F.set t v).round=F.round:=by
 unfold ad.set
 split
 · split<;>exact⟨rfl,rfl,rfl,rfl,rfl,rfl,rfl,rfl,rfl⟩
 · exact⟨rfl,rfl,rfl,rfl,rfl,rfl,rfl,rfl,rfl⟩
theorem sy.set {A B:ad}(h:sy A B)(t:Nat)(v:AV):sy (A.set t v) (B.set t v):=by
 obtain⟨b,a2,a3,a4,a5,c,d,f,a9⟩:=A.C5 t v
 obtain⟨g,i,j,k,l,m,o,p,q⟩:=B.C5 t v
 refine⟨by rw[b,g,h.fn],by rw[a2,i,h.n],by rw[a3,j,h.mask],by rw[a4,k,h.todo],by rw[a5,l,h.defers],by rw[c,m,h.mode],by rw[d,o,h.kind],by rw[f,p,h.cm],by rw[a9,q,h.round],fun s r e=>?_⟩
 rw[ad.FF] at e
 rw[ad.FF,←h.n]
 split at e
 · rename_i a;exact⟨v,by rw[if_pos a],.inl (by simpa using e.symm)⟩
 · rename_i a;rw[if_neg a];exact h.get s r e
theorem sy.put {A B:ad}(h:sy A B)(d:Option Tmp)(v:AV):sy (A.put d v) (B.put d v):=by
 cases d with
 | none=>exact h
 | some t=>exact h.set t v
theorem sy.with {A B:ad}(h:sy A B)(td:List aC)(ds:List gx)(m:de):sy { A with todo:=td,defers:=ds,mode:=m } { B with todo:=td,defers:=ds,mode:=m }:=
 ⟨h.fn,h.n,h.mask,rfl,rfl,rfl,h.kind,h.cm,h.round,h.get⟩
theorem sy.back {A B:ad}(h:sy A B)(o:Oper)(all:Array Oper)(rest:List Nat)(k:List aC)(r:ic):sy (A.back o all rest k r) (B.back o all rest k r):=by
 cases r with
 | ret v=>
   have q:=h.put o.dst v
   have:=q.with (.ops all rest::k) (A.put o.dst v).defers (A.put o.dst v).mode
   simp only[ad.back,ad.after]
   rw[show(B.put o.dst v)={ B.put o.dst v with defers:=(A.put o.dst v).defers,mode:=(A.put o.dst v).mode } from by rw[←q.defers,←q.mode]]
   exact this
 | uh l=>exact⟨h.fn,h.n,h.mask,h.todo,h.defers,rfl,h.kind,h.cm,h.round,h.get⟩
theorem sy.og {A B:ad}(h:sy A B)(d l:Nat)(k:List aC)(r:ic):sy (A.og d l k r) (B.og d l k r):=by
 cases r with
 | ret v=>exact⟨h.fn,h.n,h.mask,rfl,by simp only[ad.og];rw[h.defers],h.mode,h.kind,h.cm,h.round,h.get⟩
 | uh c=>exact⟨h.fn,h.n,h.mask,rfl,by simp only[ad.og,ad.IQ];rw[h.defers],rfl,h.kind,h.cm,h.round,h.get⟩
section
variable {σ : Nat → Nat}
theorem Pk (l:List (Nat×AV))(t:Nat)(v:AV):hJ σ (up l t v)=up (hJ σ l) t (v.ax σ):=by
 induction l with
 | nil=>simp[hJ,Hc]
 | cons a l b=>
   obtain⟨k,u⟩:=a
   simp only[hJ,List.map_cons,DX] at *
   cases Nat.beq k t with
   | true=>rfl
   | false=>simp only[List.map_cons,b]
theorem ad.Pl (F:ad)(t:Nat)(v:AV):(F.set t v).ax σ=(F.ax σ).set t (v.ax σ):=by
 obtain⟨fn,n,mask,loc,pW,todo,defers,mode,kind,cm,round⟩:=F
 simp only[ad.set,ad.ax]
 cases Nat.ble (t+1) n with
 | false=>rfl
 | true=>
   cases tb mask t with
   | true=>simp only[Pk]
   | false=>simp only[hJ,List.map_cons]
theorem ad.Pm (F:ad)(d:Option Tmp)(v:AV):(F.put d v).ax σ=(F.ax σ).put d (v.ax σ):=by
 cases d with
 | none=>rfl
 | some t=>exact F.Pl t v
theorem ad.FG (F:ad)(o:Oper)(all:Array Oper)(rest:List Nat)(k:List aC)(r:ic):(F.back o all rest k r).ax σ=(F.ax σ).back o all rest (k.map (aC.ax σ)) (r.ax σ):=by
 cases r with
 | ret v=>
   simp only[ad.back,ad.after,ic.ax]
   rw[←ad.Pm]
   cases F.put o.dst v
   rfl
 | uh l=>cases F;rfl
theorem ad.Kc (F:ad)(d l:Nat)(k:List aC)(r:ic):(F.og d l k r).ax σ=(F.ax σ).og (σ d) (σ l) (k.map (aC.ax σ)) (r.ax σ):=by
 cases r<;>cases F<;>rfl
theorem Gm (m:de)(l:List (AV×Bool)):(wO m l).ax σ=wO (m.ax σ) (Ag σ l):=by
 cases m<;>simp[wO,de.ax,Ag]
theorem Gn (m:de):(wN m).ax σ=wN (m.ax σ):=by
 cases m with
 | run=>rfl
 | returning=>rfl
 | panicking l=>
   cases l with
   | nil=>rfl
   | cons a r=>
     obtain⟨v,b⟩:=a
     cases b<;>rfl
theorem y9.set {S S2:af}(c:∀ a b,σ a=σ b→a=b)(h:y9 σ S S2)(id:Nat)(o:ak):y9 σ (S.set id o) (S2.set (σ id) (o.ax σ)):=by
 refine⟨fun k x e=>?_,h.lim,h.hi,h.lo⟩
 by_cases d:k=id
 · subst d
   rw[af.bD (nM _)] at e ⊢
   simp only[ar] at e ⊢;rw[e]
 · rw[af.au (nM _) d] at e
   rw[af.au (nM _) (fun q=>d (c _ _ q))]
   exact h.get k x e
theorem Kd (id:Nat)(l:List aC):r9 id (l.map (aC.ax σ))=(r9 id l).map (List.map (aC.ax σ)):=by
 induction l with
 | nil=>rfl
 | cons a l b=>
   cases a with
   | inBlock i=>simp only[List.map_cons,aC.ax,r9,b];split<;>rfl
   | _=>simp only[List.map_cons,aC.ax,r9,b]
theorem Ke (l:List aC):yo (l.map (aC.ax σ))=yo l:=by
 cases l with
 | nil=>rfl
 | cons a l=>
   cases a with
   | code c=>
     cases c<;>simp only[List.map_cons,aC.ax,yo]
     rename_i b
     rw[Kd]
     cases r9 b l<;>rfl
   | _=>rfl
theorem EY.ax (g:∀ a b,σ a=σ b→a=b){id:Nat}{F:ad}{S S2:af}{Q Q2:ic→af→Prop}(i:y9 σ S S2)(k:∀ r S S2,Q r S→y9 σ S S2→Q2 (r.ax σ) S2)(h:EY id F S Q):EY (σ id) (F.ax σ) S2 Q2:=by
 obtain⟨fn,n,mask,loc,pW,todo,defers,mode,kind,cm,round⟩:=F
 obtain⟨a,b⟩:=h
 simp only at a
 subst a
 refine⟨rfl,?_⟩
 rcases b with⟨b,st,j,f,m,mk,env,params,assign,body,c,d,e⟩ | ⟨l,b,c⟩
 · simp only at b
   subst b
   refine .inl ⟨rfl,st,j,f,m,mk,hJ σ env,params,assign,body,i.get _ _ c,i.lim _ d,?_⟩
   rcases e with⟨e,o⟩ | ⟨x,e,o⟩
   · simp only at e
     subst e
     exact .inl ⟨rfl,k _ _ _ o (i.set g id _)⟩
   · exact .inr ⟨x,(Ke todo).trans e,k _ _ _ o (i.set g id _)⟩
 · simp only at b
   subst b
   exact .inr ⟨Ag σ l,rfl,k _ _ _ c i⟩
variable {S2 : af} {v : AV} {cs : List AV}
theorem Et (b:y9 σ S S2)(h:jN S v=some cs):jN S2 (v.ax σ)=some (dW σ cs):=by
 unfold jN at h
 split at h
 · rename_i id i j
   split at h<;>try (simp at h;done)
   rename_i sz es c
   split at h<;>try (simp at h;done)
   rename_i e a
   split at h<;>simp only[ar,reduceCtorEq] at h
   rename_i d
   subst h
   rw[iB] at a
   rw[AV.ax]
   simp only[jN,b.get _ _ c,ak.ax,iB,iE,a,Option.map_some,AV.fT,aF,d]
   rw[uR,uR,List.map_drop]
 · simp only[ar] at h
   subst h
   rw[AV.ax];rfl
 · simp at h
theorem HT {t:TypeId}(h:mI P t cs=some v):mI P t (dW σ cs)=some (v.ax σ):=by
 unfold mI at h ⊢
 split at h
 · rename_i b
   split at h<;>try (simp at h;done)
   rename_i n c
   split at h<;>simp only[ar,reduceCtorEq] at h
   rename_i a
   subst h
   simp only[aF,a,AV.ax]
   rw[uR,uR,List.map_take]
 · rename_i b
   rw[iB] at h
   simp only[iB,iE,h,Option.map_some]
 · simp at h
variable {F : ad}
theorem FH (g:y9 σ S S2):∀ {b:List ResultVar} {l:List AV},tY P F S b=some l→tY P (F.ax σ) S2 b=some (dW σ l):=by
 intro b
 induction b with
 | nil=>intro l h;simp only[tY,ar] at h;subst h;rfl
 | cons r b f=>
   intro l h
   cases r with
   | tmp t=>
     simp only[tY] at h
     split at h<;>try (simp at h;done)
     rename_i v c
     split at h<;>simp only[ar,reduceCtorEq] at h
     rename_i l' d
     subst h
     simp only[tY,ad.zW,c,Option.map_some,f d,dW]
   | cell a t=>
     simp only[tY] at h
     split at h<;>try (simp at h;done)
     rename_i p i
     split at h<;>try (simp at h;done)
     rename_i cs e
     split at h<;>try (simp at h;done)
     rename_i v c
     split at h<;>simp only[ar,reduceCtorEq] at h
     rename_i l' d
     subst h
     simp only[tY,ad.zW,i,Option.map_some,Et g e,HT c,f d,dW]
theorem x5 {fn:Func}(e:y9 σ S S2)(h:sR P fn F S=some v):sR P fn (F.ax σ) S2=some (v.ax σ):=by
 unfold sR at h ⊢
 split at h
 · rename_i f c
   simp only[ar] at h
   subst h
   rw[FH e c]
   rfl
 · rename_i l d c
   simp only[ar] at h
   subst h
   rw[FH e c,AV.ax]
   cases l with
   | nil=>rfl
   | cons a r=>
     cases r with
     | nil=>exact absurd rfl (d a)
     | cons b r=>rfl
 · simp at h
inductive tp (σ : Nat → Nat) : cI → cI → Prop
 | nil : tp σ .nil .nil
 | call {fn : Func} {F2 F : ad} {o : Oper} {all : Array Oper} {rest : List Nat} {td2 td : List aC} {next2 next : cI} (hf : sy F2 (F.ax σ)) (ht : td2 = td.map (aC.ax σ)) (hn : tp σ next2 next) :
  tp σ (.call fn F2 o all rest td2 next2) (.call fn F o all rest td next)
 | qT {fn : Func} {F2 F : ad} {ds2 ds : List gx} {next2 next : cI} (hf : sy F2 (F.ax σ)) (ht : ds2 = ds.map (gx.ax σ)) (hn : tp σ next2 next) :
  tp σ (.qT fn F2 ds2 next2) (.qT fn F ds next)
 | loop {fn : Func} {F2 F : ad} {d2 l2 d l : Nat} {td2 td : List aC} {next2 next : cI} (hf : sy F2 (F.ax σ)) (ht : td2 = td.map (aC.ax σ)) (hd : d2 = σ d) (hl : l2 = σ l) (hn : tp σ next2 next) :
  tp σ (.loop fn F2 d2 l2 td2 next2) (.loop fn F d l td next)
 | round {fn : Func} {F2 F : ad} {o : Oper} {all : Array Oper} {rest : List Nat} {td2 td : List aC} {id2 id : Nat} {next2 next : cI} (hf : sy F2 (F.ax σ)) (ht : td2 = td.map (aC.ax σ)) (hd : id2 = σ id) (hn : tp σ next2 next) :
  tp σ (.round fn F2 o all rest td2 id2 next2) (.round fn F o all rest td id next)
 | hole {G2 G : ad → af → Prop} (h : ∀ F S S2, G F S → y9 σ S S2 → G2 (F.ax σ) S2) : tp σ (.hole G2) (.hole G)
theorem GK.ax {P:Program}(g:∀ a b,σ a=σ b→a=b){k2 k:cI}(s:tp σ k2 k){fn:Func}{Q Q2:ic→de→af→Prop}(i:∀ r cm S S2,Q r cm S→y9 σ S S2→Q2 (r.ax σ) (cm.ax σ) S2){F:ad}{S S2:af}(e:y9 σ S S2)
   (h:GK P k fn Q F S):GK P k2 fn Q2 (F.ax σ) S2:=by
 have fin:Fin P fn Q F S→Fin P fn Q2 (F.ax σ) S2:=by
   rintro⟨a,b⟩
   obtain⟨f,n,mask,loc,pW,todo,defers,mode,kind,cm,round⟩:=F
   simp only at a b
   subst a
   refine⟨rfl,?_⟩
   rcases b with⟨b,v,c,d⟩ | ⟨l,b,c⟩
   · subst b
     exact .inl ⟨rfl,v.ax σ,x5 e c,i _ _ _ _ d e⟩
   · subst b
     exact .inr ⟨Ag σ l,rfl,i _ _ _ _ c e⟩
 cases s with
 | nil=>exact fin h
 | call j m o=>exact fin h
 | qT j m o=>exact fin h
 | loop j m p u o=>exact fin h
 | round j m p o=>
   subst p
   exact EY.ax (Q2:=fun r S=>Q2 r .run S) g e (fun r S S2 q e=>i r .run S S2 q e) h
 | hole t=>exact t _ _ _ h e
theorem fH.ax {P:Program}{Qf x:ic→af→Prop}(f:∀ a b,σ a=σ b→a=b)(D:∀ r S S2,Qf r S→y9 σ S S2→x (r.ax σ) S2):∀ {k2 k:cI},tp σ k2 k→∀ {A m:(ic→de→af→Prop)→Prop},
   (∀ Q Q2:ic→de→af→Prop,(∀ r cm S S2,Q r cm S→y9 σ S S2→Q2 (r.ax σ) (cm.ax σ) S2)→A Q→m Q2)→fH P Qf k A→fH P x k2 m:=by
 intro k2 k E
 induction E with
 | nil=>intro A m i h;exact i _ _ (fun r cm S S2 q j=>D r S S2 q j) h
 | hole J=>intro A m i h;exact i _ _ (fun _ _ _ _ q _=>q.elim) h
 | @call fn z F o all rest y td c next n p s t=>
   intro A m i h
   refine t (fun Q Q2 u q=>i _ _ (fun r cm S S2 q j=>?_) q) h
   subst p
   have:=Reach.ax f j q (G2:=GK P c fn Q2) fun _ _ _ w g=>GK.ax f s u g w
   rw[ad.FG] at this
   exact(n.back o all rest _ _).reach this
 | @qT fn z F H ds c next n p s t=>
   intro A m i h
   refine t (fun Q Q2 u q=>i _ _ (fun r cm S S2 q j=>?_) q) h
   subst p
   have:=Reach.ax f j q (G2:=GK P c fn Q2) fun _ _ _ w g=>GK.ax f s u g w
   have e:({ F with defers:=ds,mode:=iJ r cm }:ad).ax σ={ F.ax σ with todo:=(F.ax σ).todo,defers:=ds.map (gx.ax σ),mode:=iJ (r.ax σ) (cm.ax σ) }:=by
    cases F
    cases r with
    | ret v=>simp only[ad.ax,iJ,ic.ax,Gn]
    | uh l=>simp only[ad.ax,iJ,ic.ax,Gm]
   rw[e] at this
   have B:=n.with (F.ax σ).todo (ds.map (gx.ax σ)) (iJ (r.ax σ) (cm.ax σ))
   rw[n.todo] at B this
   exact B.reach this
 | @loop fn z F K l2 d l y td c next n p C G s t=>
   intro A m i h
   refine t (fun Q Q2 u q=>i _ _ (fun r cm S S2 q j=>?_) q) h
   subst p C G
   have:=Reach.ax f j q (G2:=GK P c fn Q2) fun _ _ _ w g=>GK.ax f s u g w
   rw[ad.Kc] at this
   exact(n.og _ _ _ _).reach this
 | @round fn z F o all rest y td I id c next n p C s t=>
   intro A m i h
   refine t (fun Q Q2 u q=>i _ _ (fun r cm S S2 q j=>?_) q) h
   subst p
   have:=Reach.ax f j q (G2:=GK P c fn Q2) fun _ _ _ w g=>GK.ax f s u g w
   rw[ad.FG] at this
   exact(n.back o all rest _ _).reach this
theorem aJ.ax {P:Program}{Qf d:ic→af→Prop}(c:∀ a b,σ a=σ b→a=b)(i:∀ r S S2,Qf r S→y9 σ S S2→d (r.ax σ) S2){fn:Func}{f F:ad}{S2 S:af}{k2 k:cI}(g:tp σ k2 k)(j:sy f (F.ax σ))(l:y9 σ S S2)
  (h:aJ P Qf (.run fn F S k)):aJ P d (.run fn f S2 k2):=
 fH.ax c i g (fun _ _ m q=>j.reach (Reach.ax c l q fun _ _ _ n e=>GK.ax c g m e n)) h
end
end
end Go.Eng
namespace Go.Eng
noncomputable section
def ab (T:FT)(P:Program):Nat→St→St
 | 0,s=>s
 | n+1,s=>ab T P n (s.step T P)
def KL (P:Program)(s:St):Option AV:=
 match db s with
 | some o=>match hU o.op with
   | none=>match s with
     | .run _ F _ _=>pop P F.eval o.op
     | .fE D _=>pop P D.F.eval o.op
     | _=>none
   | some _=>none
 | none=>none
def NI (P:Program)(s:St):Option cY:=
 match s with
 | .run fn F S k=>match db (.run fn F S k) with
   | some o=>match hU o.op,bT o.op with
     | none,false=>ze P F.eval S o.op
     | _,_=>none
   | none=>none
 | _=>none
def KN (T:FT)(P:Program)(s:St):Option (Nat×List AV):=
 match db s with
 | some o=>match hU o.op with
   | some c=>match s with
     | .run _ F _ _=>match re T F c P with
       | some (g,_,args)=>some (g,args)
       | none=>none
     | .fE D _=>match re T D.F c P with
       | some (g,_,args)=>some (g,args)
       | none=>none
     | _=>none
   | none=>none
 | none=>none
def jx : St→af
 | .run _ _ S _=>S
 | _=>af.empty
section
variable {T : FT} {P : Program} {Qf : ic → af → Prop}
variable {s : St}
theorem s6 {o:Oper}(h:db s=some o):Af s o.dst=true:=by
 unfold Af
 rw[h]
 simp only
 cases o.dst with
 | none=>rfl
 | some t=>exact Nat.beq_refl t
theorem cj (c:cF T P)(b:P.follows .mixedOrders=true):∀(n:Nat) {s:St},aJ P Qf (ab T P n s)→aJ P Qf s:=by
 intro n
 induction n with
 | zero=>intro s h;exact h
 | succ n d=>intro s h;exact ru c b (d h)
variable {s' : St}
theorem abl (c:cF T P)(b:P.follows .mixedOrders=true)(n:Nat)(h:ab T P n s=s')(q:aJ P Qf s'):aJ P Qf s:=
 cj c b n (by rw[h];exact q)
variable {v : AV}
theorem Pn (g:cF T P)(h:KL P s=some v)(q:aJ P Qf (aA v none s)):aJ P Qf s:=by
 unfold KL at h
 cases b:db s with
 | none=>rw[b] at h;simp at h
 | some o=>
   rw[b] at h
   simp only at h
   cases d:hU o.op with
   | some c=>rw[d] at h;simp at h
   | none=>
     rw[d] at h
     refine tw g (s6 b) ?_ q
     cases s with
     | run fn F S k=>
       have e:db (.run default F S .nil)=some o:=b
       simp only[zf,e,d]
       exact h
     | fE D k=>
       obtain⟨os,f,_⟩:=vY b
       simp only[zf,f,d]
       exact h
     | _=>simp at h
theorem Qm (c:cF T P)(b:P.follows .mixedOrders=true)(n:Nat)(o:Option AV)(v:AV)(h:KL P (ab T P n s)=o)(d:o=some v)(q:aJ P Qf (aA v none (ab T P n s))):aJ P Qf s:=
 cj c b n (Pn c (h.trans d) q)
theorem abm (d:cF T P)(c:P.follows .mixedOrders=true)(n:Nat)(b:Bool)(h:KL P (ab T P n s)=some (.sc (.bool b)))(e:b=true→aJ P Qf (aA (.sc (.bool true)) none (ab T P n s)))(f:b=false→aJ P Qf (aA (.sc (.bool false)) none (ab T P n s))):aJ P Qf s:=by
 refine Qm d c n _ (.sc (.bool b)) h rfl ?_
 cases b with
 | true=>exact e rfl
 | false=>exact f rfl
variable {S' : af}
theorem IZ (i:cF T P)(h:NI P s=some (.val v S'))(g:(db s).bind (·.dst)≠none)(q:aJ P Qf (aA v (some S') s)):aJ P Qf s:=by
 unfold NI at h
 cases s with
 | run fn F S k=>
   simp only at h
   cases b:db (.run fn F S k) with
   | none=>rw[b] at h;simp at h
   | some o=>
     rw[b] at h g
     simp only at h
     split at h<;>try (simp at h;done)
     rename_i j c
     refine tw i (s6 b) ?_ q
     have e:db (.run default F S .nil)=some o:=b
     simp only[zf,e,j,c]
     cases f:o.dst with
     | none=>simp[f] at g
     | some d=>exact h
 | _=>simp at h
theorem FI (i:cF T P)(h:NI P s=some (.skip S'))(g:(db s).bind (·.dst)=none)(q:aJ P Qf (aA (.bm []) (some S') s)):aJ P Qf s:=by
 unfold NI at h
 cases s with
 | run fn F S k=>
   simp only at h
   cases b:db (.run fn F S k) with
   | none=>rw[b] at h;simp at h
   | some o=>
     rw[b] at h g
     simp only at h
     split at h<;>try (simp at h;done)
     rename_i j c
     refine tw i (s6 b) ?_ q
     have e:db (.run default F S .nil)=some o:=b
     simp only[zf,e,j,c]
     cases f:o.dst with
     | none=>exact⟨trivial,h⟩
     | some d=>simp[f] at g
 | _=>simp at h
theorem aqf (c:cF T P)(b:P.follows .mixedOrders=true)(n:Nat)(o:Option cY)(v:AV)(S' : af)(h:NI P (ab T P n s)=o)(d:Nat)(e:(db (ab T P n s)).bind (·.dst)=some d)(f:o=some (.val v S'))(q:aJ P Qf (aA v (some S') (ab T P n s))):aJ P Qf s:=
 cj c b n (IZ c (h.trans f) (by rw[e];simp) q)
theorem acp (c:cF T P)(b:P.follows .mixedOrders=true)(n:Nat)(o:Option cY)(S' : af)(h:NI P (ab T P n s)=o)(d:(db (ab T P n s)).bind (·.dst)=none)(e:o=some (.skip S'))(q:aJ P Qf (aA (.bm []) (some S') (ab T P n s))):aJ P Qf s:=
 cj c b n (FI c (h.trans e) d q)
theorem Po (l:cF T P)(e:P.follows .mixedOrders=true)(n:Nat)(g:Nat)(args:List AV)(v:AV)(h:KN T P (ab T P n s)=some (g,args))(m:∀ S,dc P g args S fun r S' => r=.ret v∧S' = S)(q:aJ P Qf (aA v none (ab T P n s))):aJ P Qf s:=by
 refine cj l e n ?_
 generalize ab T P n s=s at h q
 unfold KN at h
 cases d:db s with
 | none=>rw[d] at h;simp at h
 | some o=>
   rw[d] at h
   simp only at h
   cases b:hU o.op with
   | none=>rw[b] at h;simp at h
   | some c=>
     rw[b] at h
     simp only at h
     refine tw l (s6 d) ?_ q
     cases s with
     | run fn F S k=>
       have i:db (.run default F S .nil)=some o:=d
       simp only at h
       split at h<;>simp only[ar,iy,reduceCtorEq] at h
       rename_i f
       obtain⟨rfl,rfl⟩:=h
       simp only[zf,i,b,f]
       exact m
     | fE D k=>
       obtain⟨os,j,_⟩:=vY d
       simp only at h
       split at h<;>simp only[ar,iy,reduceCtorEq] at h
       rename_i f
       obtain⟨rfl,rfl⟩:=h
       simp only[zf,j,b,f]
       exact m
     | _=>simp at h
theorem w8 (l:cF T P)(d:P.follows .mixedOrders=true)(n:Nat)(g:Nat)(args:List AV)(S:af)(v:AV)(S' : af)(h:KN T P (ab T P n s)=some (g,args))(e:jx (ab T P n s)=S)(m:∃ fn F S k,ab T P n s=.run fn F S k)(p:dc P g args S fun r i=>r=.ret v∧i=S')(q:aJ P Qf (aA v (some S') (ab T P n s))):aJ P Qf s:=by
 refine cj l d n ?_
 generalize ab T P n s=s at h q e m
 obtain⟨fn,F,S0,k,rfl⟩:=m
 have e:S0=S:=e
 subst e
 unfold KN at h
 cases f:db (.run fn F S0 k) with
 | none=>rw[f] at h;simp at h
 | some o=>
   rw[f] at h
   simp only at h
   cases b:hU o.op with
   | none=>rw[b] at h;simp at h
   | some c=>
     rw[b] at h
     simp only at h
     refine tw l (s6 f) ?_ q
     have j:db (.run default F S0 .nil)=some o:=f
     split at h<;>simp only[ar,iy,reduceCtorEq] at h
     rename_i t
     obtain⟨rfl,rfl⟩:=h
     simp only[zf,j,b,t]
     exact p
end
def EZ (m:PT):List (Nat×ak)→PT
 | []=>m
 | (id,o)::r=>EZ (PT.set dep m id (some o)) r
def oL (nx:Nat)(l:List (Nat×ak)):af:=⟨nx,0,EZ .nil l⟩
def NT (p nx:Nat)(l:List (Nat×ak)):af:=⟨nx,p,EZ .nil l⟩
def pick (S:af):List Nat→List (Nat×ak)
 | []=>[]
 | id::r=>match S.get id with
   | some o=>(id,o)::pick S r
   | none=>pick S r
def slotsOf (F:ad):List Nat→List (Nat×AV)
 | []=>[]
 | t::r=>match F.get t with
   | some v=>(t,v)::slotsOf F r
   | none=>slotsOf F r
def iF (F:ad)(l:List (Nat×AV)):ad:=
 match F with
 | ⟨fn,n,mask,_,_,todo,defers,mode,kind,cm,round⟩=>⟨fn,n,mask,l,l,todo,defers,mode,kind,cm,round⟩
def wI : cI→List (List (Nat×AV))→cI
 | .call fn F o all rest td next,l::ls=>.call fn (iF F l) o all rest td (wI next ls)
 | .qT fn F ds next,l::ls=>.qT fn (iF F l) ds (wI next ls)
 | .loop fn F d i td next,l::ls=>.loop fn (iF F l) d i td (wI next ls)
 | .round fn F o all rest td id next,l::ls=>.round fn (iF F l) o all rest td id (wI next ls)
 | k,_=>k
def G1 : cI→List (List Nat)→cI
 | .call fn F o all rest td next,l::ls=>.call fn (iF F (slotsOf F l)) o all rest td (G1 next ls)
 | .qT fn F ds next,l::ls=>.qT fn (iF F (slotsOf F l)) ds (G1 next ls)
 | .loop fn F d i td next,l::ls=>.loop fn (iF F (slotsOf F l)) d i td (G1 next ls)
 | .round fn F o all rest td id next,l::ls=>.round fn (iF F (slotsOf F l)) o all rest td id (G1 next ls)
 | k,_=>k
def jg (s:St)(ls:List (List (Nat×AV)))(S:af):St:=
 match s,ls with
 | .run fn F _ k,l::ls=>.run fn (iF F l) S (wI k ls)
 | _,_=>.bad 70
def q9 (b:List (List Nat))(ids:List Nat)(s:St):St:=
 match s,b with
 | .run fn F S k,l::ls=>.run fn (iF F (slotsOf F l)) (NT S.lim S.nx (pick S ids)) (G1 k ls)
 | _,_=>.bad 71
def uw : cI→Bool
 | .nil=>true
 | .call _ _ _ _ _ _ n=>uw n
 | .qT _ _ _ n=>uw n
 | .loop _ _ _ _ _ n=>uw n
 | .round _ _ _ _ _ _ _ n=>uw n
 | _=>false
def mL : St→Bool
 | .run _ _ _ k=>uw k
 | _=>false
theorem yS {F:ad}:∀ {l:List Nat} {t:Nat} {v:AV},lk (slotsOf F l) t=some v→F.get t=some v:=by
 intro l
 induction l with
 | nil=>intro t v h;simp[slotsOf,oh] at h
 | cons a l d=>
   intro t v h
   simp only[slotsOf] at h
   cases b:F.get a with
   | none=>rw[b] at h;exact d h
   | some u=>
     rw[b] at h
     simp only[gz] at h
     cases c:Nat.beq a t with
     | true=>
       rw[c] at h
       have:a=t:=jK c
       subst this
       simp only[ar] at h;subst h;exact b
     | false=>rw[c] at h;exact d h
theorem gA (F:ad)(l:List Nat):sy F (iF F (slotsOf F l)):=by
 cases F
 refine⟨rfl,rfl,rfl,rfl,rfl,rfl,rfl,rfl,rfl,fun t v e=>⟨v,?_,.inl rfl⟩⟩
 simp only[iF,ad.get] at e
 split at e
 · exact yS e
 · exact yS e
mutual
theorem AV.cy : ∀ v:AV,v.ax (fun x=>x)=v
 | .sc v=>by rw[AV.ax]
 | .agg cs=>by rw[AV.ax,qG cs]
 | .eG=>by rw[AV.ax]
 | .an=>by rw[AV.ax]
 | .lit es=>by rw[AV.ax,qG es]
 | .eV cs=>by rw[AV.ax,qG cs]
 | .ptr id i j=>by rw[AV.ax]
 | .aj id o l=>by rw[AV.ax]
 | .dJ id=>by rw[AV.ax]
 | .fn f a b=>by rw[AV.ax,qG a,qG b]
 | .fq t v=>by rw[AV.ax,AV.cy v]
 | .bm c=>by rw[AV.ax,qG c]
 | .pq id=>by rw[AV.ax]
 | .clip v=>by rw[AV.ax,AV.cy v]
 | .top=>by rw[AV.ax]
theorem qG : ∀ l:List AV,dW (fun x=>x) l=l
 | []=>by rw[dW]
 | v::l=>by rw[dW,AV.cy v,qG l]
end
theorem I0 (l:List (Nat×AV)):hJ (fun x=>x) l=l:=by
 induction l with
 | nil=>rfl
 | cons a l b=>simp only[hJ,List.map_cons,AV.cy] at *;rw[b]
theorem Pp (l:List (AV×Bool)):Ag (fun x=>x) l=l:=by
 induction l with
 | nil=>rfl
 | cons a l b=>simp only[Ag,List.map_cons,AV.cy] at *;rw[b]
theorem aC.cy (l:List aC):l.map (aC.ax fun x=>x)=l:=by
 induction l with
 | nil=>rfl
 | cons a l b=>rw[List.map_cons,b];cases a<;>rfl
theorem gx.cy (l:List gx):l.map (gx.ax fun x=>x)=l:=by
 induction l with
 | nil=>rfl
 | cons a l b=>rw[List.map_cons,b];cases a<;>simp only[gx.ax,qG]
theorem de.cy (m:de):m.ax (fun x=>x)=m:=by
 cases m<;>simp only[de.ax,Pp]
theorem ad.cy (F:ad):F.ax (fun x=>x)=F:=by
 cases F
 simp only[ad.ax,I0,aC.cy,gx.cy,de.cy]
 simp
theorem ak.cy (o:ak):o.ax (fun x=>x)=o:=by
 cases o with
 | arr sz es=>simp only[ak.ax,qG]
 | mp b=>simp only[ak.ax,AV.cy];simp
 | lp st pending fn n mask env params assign body=>simp only[ak.ax,I0]
 | _=>rfl
theorem M6 : ∀ {k:cI} {ls:List (List Nat)},uw k=true→tp (fun x=>x) k (G1 k ls):=by
 intro k
 induction k with
 | nil=>intro ls _;cases ls<;>exact .nil
 | hole G=>intro ls h;simp[uw] at h
 | call fn F o all rest td next b=>
   intro ls h
   cases ls with
   | nil=>exact .call (by rw[ad.cy];exact sy.refl F) (aC.cy td).symm (by have:=b (ls:=[]) h;cases next<;>exact this)
   | cons l ls=>exact .call (by rw[ad.cy];exact gA F l) (aC.cy td).symm (b h)
 | qT fn F ds next b=>
   intro ls h
   cases ls with
   | nil=>exact .qT (by rw[ad.cy];exact sy.refl F) (gx.cy ds).symm (by have:=b (ls:=[]) h;cases next<;>exact this)
   | cons l ls=>exact .qT (by rw[ad.cy];exact gA F l) (gx.cy ds).symm (b h)
 | loop fn F d l td next b=>
   intro ls h
   cases ls with
   | nil=>exact .loop (by rw[ad.cy];exact sy.refl F) (aC.cy td).symm rfl rfl (by have:=b (ls:=[]) h;cases next<;>exact this)
   | cons l ls=>exact .loop (by rw[ad.cy];exact gA F l) (aC.cy td).symm rfl rfl (b h)
 | round fn F o all rest td id next b=>
   intro ls h
   cases ls with
   | nil=>exact .round (by rw[ad.cy];exact sy.refl F) (aC.cy td).symm rfl (by have:=b (ls:=[]) h;cases next<;>exact this)
   | cons l ls=>exact .round (by rw[ad.cy];exact gA F l) (aC.cy td).symm rfl (b h)
 | fE D o os E e aQ c next b=>intro ls h;simp[uw] at h
theorem M7 : ∀(l:List (Nat×ak)) (m:PT) (id:Nat) (o:ak),PT.get dep (EZ m l) id=some o→(id,o)∈l∨PT.get dep m id=some o:=by
 intro l
 induction l with
 | nil=>intro m id o h;exact .inr h
 | cons a l b=>
   intro m id o h
   obtain⟨i,x⟩:=a
   rcases b _ id o h with q | q
   · exact .inl (ug _ q)
   · by_cases e:i=id
     · subst e
       rw[PT.bD] at q
       simp only[ar] at q
       subst q
       exact .inl (List.mem_cons_self ..)
     · rw[PT.sj _ _ _ _ _ e] at q;exact .inr q
theorem wT {nx:Nat}{l:List (Nat×ak)}{id:Nat}{o:ak}(h:(oL nx l).get id=some o):(id,o)∈l:=by
 rcases M7 l .nil id o h with q | q
 · exact q
 · rw[PT.get_nil] at q;simp at q
theorem FJ {S:af}:∀ {ids:List Nat} {id:Nat} {o:ak},(id,o)∈pick S ids→S.get id=some o:=by
 intro ids
 induction ids with
 | nil=>intro id o h;simp[pick] at h
 | cons a l b=>
   intro id o h
   simp only[pick] at h
   split at h
   · rename_i x hx
     rcases List.mem_cons.1 h with e | e
     · simp only[iy] at e;obtain⟨rfl,rfl⟩:=e;exact hx
     · exact b e
   · exact b h
def uM (a:Nat)(Qf:ic→af→Prop):Prop:=∀ σ:Nat→Nat,(∀ x y,σ x=σ y→x=y)→(∀ i,i<a→σ i=i)→∀ r S b,Qf r S→y9 σ S b→Qf (r.ax σ) b
section
variable {T : FT} {P : Program} {Qf : ic → af → Prop}
variable {s : St} {a : Nat}
theorem aJ.cut (f:uM a Qf){c:List (List Nat)}{ids:List Nat}(d:mL s=true)(h:aJ P Qf (q9 c ids s)):aJ P Qf s:=by
 cases s with
 | run fn F S k=>
   cases c with
   | nil=>exact h.elim
   | cons l ls=>
     simp only[q9] at h
     refine aJ.ax (σ:=fun x=>x) (fun a b e=>e) (fun r S g q i=>f _ (fun a b e=>e) (fun _ _=>rfl) r S g q i) (M6 d) (by rw[ad.cy];exact gA F l) ?_ h
     exact⟨fun id o e=>by rw[ak.cy];exact FJ (wT (nx:=S.nx) e),fun id h=>h,fun k=>rfl,fun id aQ=>aQ⟩
 | _=>simp[mL] at d
variable {s' : St}
theorem DN (c:cF T P)(b:P.follows .mixedOrders=true)(d:uM a Qf)(n:Nat)(e:List (List Nat))(ids:List Nat)(f:mL (ab T P n s)=true)(h:q9 e ids (ab T P n s)=s')(q:aJ P Qf s'):aJ P Qf s:=
 cj c b n (aJ.cut d f (by rw[h];exact q))
variable {v : AV}
theorem uM.pure (b:∀ σ,v.ax σ=v):uM 0 fun r _=>r=.ret v:=by
 rintro σ _ _ r S c rfl _
 simp only[ic.ax,b]
end
end
end Go.Eng
namespace Go.Eng
noncomputable section
def kj : List (Nat×Nat)→Nat→Nat→Nat→Nat
 | [],N,nx,i=>match Nat.ble N i with
   | true=>nx+(i-N)
   | false=>i
 | (c,a)::r,N,nx,i=>match Nat.beq c i with
   | true=>a
   | false=>kj r N nx i
def tZ (l:List (Nat×Nat))(N nx:Nat)(_ _:List Nat):Bool:=
 Nat.ble N nx&&l.all (fun p=>Nat.ble (p.1+1) N&&Nat.ble (p.2+1) nx&&(Nat.ble N p.2||(l.map (·.1)).contains p.2))&&decide (l.map (·.2)).Nodup&&decide (l.map (·.1)).Nodup
theorem x6 (l:List (Nat×Nat))(N nx i:Nat):(∃ p,p∈l∧p.1=i∧kj l N nx i=p.2)∨((∀ p,p∈l→p.1≠i)∧kj l N nx i=if N≤i then nx+(i-N) else i):=by
 induction l with
 | nil=>
   refine .inr ⟨fun p h=>by simp at h,?_⟩
   simp only[kj]
   split
   · rename_i e;rw[if_pos (eL e)]
   · rename_i e;rw[if_neg (fun q=>by rw[tn q] at e;simp at e)]
 | cons p r d=>
   obtain⟨c,a⟩:=p
   simp only[kj]
   cases b:Nat.beq c i with
   | true=>exact .inl ⟨(c,a),List.mem_cons_self .., jK b,rfl⟩
   | false=>
     rcases d with⟨p,h1,h2,h3⟩ | ⟨h1,h2⟩
     · exact .inl ⟨p,ug _ h1,h2,h3⟩
     · refine .inr ⟨fun p f=>?_,h2⟩
       rcases List.mem_cons.1 f with e | e
       · subst e;intro q;simp only at q;rw[q,Nat.beq_refl] at b;simp at b
       · exact h1 p e
variable {l : List (Nat × Nat)} {N nx : Nat}
theorem C6 {cs as:List Nat}(h:tZ l N nx cs as=true):N≤nx∧∀ i,(kj l N nx i=i∧i<N)∨(N≤i∧kj l N nx i=nx+(i-N))∨(i<N∧True∧kj l N nx i<nx):=by
 simp only[tZ,Bool.and_eq_true,List.all_eq_true] at h
 obtain⟨⟨⟨h1,h2⟩,_⟩,_⟩:=h
 have h1:=eL h1
 refine⟨h1,fun i=>?_⟩
 rcases x6 l N nx i with⟨p,d,e,f⟩ | ⟨d,e⟩
 · obtain⟨⟨a,b⟩,_⟩:=h2 p d
   have a:=eL a
   have b:=eL b
   exact .inr (.inr ⟨by omega,trivial,by omega⟩)
 · rw[e]
   by_cases hi:N≤i
   · rw[if_pos hi];exact .inr (.inl ⟨hi,rfl⟩)
   · rw[if_neg hi];exact .inl ⟨rfl,by omega⟩
theorem uS (h:tZ l N nx [] []=true):∀ x y,kj l N nx x=kj l N nx y→x=y:=by
 simp only[tZ,Bool.and_eq_true,List.all_eq_true,decide_eq_true_eq] at h
 obtain⟨⟨⟨h1,h2⟩,h3⟩,h4⟩:=h
 have h1:=eL h1
 have mix:∀ p y,p∈l→(∀ q,q∈l→q.1≠y)→p.2=(if N≤y then nx+(y-N) else y)→False:=by
   intro p y u v e
   obtain⟨⟨_,b⟩,c⟩:=h2 p u
   have b:=eL b
   by_cases n:N≤y
   · rw[if_pos n] at e;omega
   · rw[if_neg n] at e
     rw[Bool.or_eq_true] at c
     rcases c with c | c
     · have:=eL c;omega
     · have w:p.2∈l.map (·.1):=by simpa using c
       obtain⟨q,z,A⟩:=List.mem_map.1 w
       exact v q z (A.trans e)
 intro x y e
 rcases x6 l N nx x with⟨p,d,f,o⟩ | ⟨d,f⟩<;>rcases x6 l N nx y with⟨q,g,k,r⟩ | ⟨g,k⟩
 · obtain⟨i,hi⟩:=List.getElem?_of_mem d
   obtain⟨j,m⟩:=List.getElem?_of_mem g
   have t:(l.map (·.2))[i]? = some p.2:=by rw[List.getElem?_map,hi];rfl
   have B:(l.map (·.2))[j]? = some p.2:=by rw[List.getElem?_map,m,←o,e,r];rfl
   have:=(List.getElem?_inj (List.getElem?_eq_some_iff.1 t).1 h3).1 (t.trans B.symm)
   subst this
   rw[hi] at m
   simp only[ar] at m
   rw[←f,←k,m]
 · exact(mix p y d g (by rw[←o,e,k])).elim
 · exact(mix q x g d (by rw[←r,←e,f])).elim
 · rw[f,k] at e
   split at e<;>split at e<;>omega
def Dy (σ:Nat→Nat)(F:ad):List aC×List gx×de×de×Option Nat:=(F.todo.map (aC.ax σ),F.defers.map (gx.ax σ),F.mode.ax σ,F.cm.ax σ,F.round.map σ)
def wJ (F:ad):List aC×List gx×de×de×Option Nat:=(F.todo,F.defers,F.mode,F.cm,F.round)
def Ao (σ:Nat→Nat):cI→Prop
 | .nil=>True
 | .call _ F _ _ _ td next=>Dy σ F=wJ F∧td.map (aC.ax σ)=td∧Ao σ next
 | .qT _ F ds next=>Dy σ F=wJ F∧ds.map (gx.ax σ)=ds∧Ao σ next
 | .loop _ F d i td next=>Dy σ F=wJ F∧td.map (aC.ax σ)=td∧σ d=d∧σ i=i∧Ao σ next
 | .round _ F _ _ _ td id next=>Dy σ F=wJ F∧td.map (aC.ax σ)=td∧σ id=id∧Ao σ next
 | _=>False
def LV (σ:Nat→Nat):St→Prop
 | .run _ F _ k=>Dy σ F=wJ F∧Ao σ k
 | _=>False
def ra : cI→Nat
 | .call _ _ _ _ _ _ n=>ra n+1
 | .qT _ _ _ n=>ra n+1
 | .loop _ _ _ _ _ n=>ra n+1
 | .round _ _ _ _ _ _ _ n=>ra n+1
 | _=>0
def tq : St→Nat
 | .run _ _ _ k=>ra k+1
 | _=>0
variable {σ : Nat → Nat}
theorem gB {F:ad}(h:Dy σ F=wJ F)(l:List (Nat×AV)):(iF F l).ax σ=iF F (hJ σ l):=by
 cases F
 simp only[Dy,wJ,iy] at h
 obtain⟨h1,h2,h3,h4,h5⟩:=h
 simp only[iF,ad.ax,h1,h2,h3,h4,h5]
theorem Kf : ∀ {k:cI} {ls:List (List (Nat×AV))},Ao σ k→ls.length=ra k→tp σ (wI k (ls.map (hJ σ))) (wI k ls):=by
 intro k
 induction k with
 | nil=>intro ls _ b;cases ls<;>exact .nil
 | hole G=>intro ls h;exact h.elim
 | call fn F o all rest td next e=>
   intro ls h b
   cases ls with
   | nil=>simp[ra] at b
   | cons l ls=>exact .call (by rw[gB h.1];exact sy.refl _) h.2.1.symm (e h.2.2 (by simpa [ra] using b))
 | qT fn F ds next e=>
   intro ls h b
   cases ls with
   | nil=>simp[ra] at b
   | cons l ls=>exact .qT (by rw[gB h.1];exact sy.refl _) h.2.1.symm (e h.2.2 (by simpa [ra] using b))
 | loop fn F d i td next e=>
   intro ls h b
   cases ls with
   | nil=>simp[ra] at b
   | cons l ls=>exact .loop (by rw[gB h.1];exact sy.refl _) h.2.1.symm h.2.2.1.symm h.2.2.2.1.symm (e h.2.2.2.2 (by simpa [ra] using b))
 | round fn F o all rest td id next e=>
   intro ls h b
   cases ls with
   | nil=>simp[ra] at b
   | cons l ls=>exact .round (by rw[gB h.1];exact sy.refl _) h.2.1.symm h.2.2.1.symm (e h.2.2.2 (by simpa [ra] using b))
 | fE D o os E g aQ f next e=>intro ls h;exact h.elim
def sO (σ:Nat→Nat)(l:List (Nat×ak)):List (Nat×ak):=l.map fun p=>(σ p.1,p.2.ax σ)
def bj (S:af):List (Nat×ak)→Prop
 | []=>True
 | (id,o)::r=>S.get id=some o∧bj S r
theorem AZ {S:af}:∀ {l:List (Nat×ak)},bj S l→∀ id o,(id,o)∈l→S.get id=some o:=by
 intro l
 induction l with
 | nil=>intro _ id o h;simp at h
 | cons p r b=>
   obtain⟨i,x⟩:=p
   intro h id o d
   rcases List.mem_cons.1 d with e | e
   · simp only[iy] at e;obtain⟨rfl,rfl⟩:=e;exact h.1
   · exact b h.2 id o e
section
variable {T : FT} {P : Program} {Qf : ic → af → Prop}
variable {a : Nat} {c : St} {ls ls2 : List (List (Nat × AV))} {l2 : List (Nat × ak)}
theorem C7 {p:Nat}(n:p≤a)(w:uM a Qf)(b:List (Nat×Nat))(N nx:Nat){l:List (Nat×ak)}(g:tZ b N nx [] []=true)(A:(b.all fun p=>Nat.ble a p.1)=true)(G:a≤N)(v:LV (kj b N nx) c)(j:ls.length=tq c)(m:ls2=ls.map (hJ (kj b N nx)))(B:bj (NT p nx l2) (sO (kj b N nx) l))(h:aJ P Qf (jg c ls (NT p N l))):aJ P Qf (jg c ls2 (NT p nx l2)):=by
 cases c with
 | run fn F S0 k=>
   cases ls with
   | nil=>simp[tq] at j
   | cons s ls=>
     subst m
     have f:∀ i,i<a→kj b N nx i=i:=by
       intro i hi
       have:∀ l:List (Nat×Nat),(l.all fun p=>Nat.ble a p.1)=true→kj l N nx i=i:=by
         intro l
         induction l with
         | nil => intro _;simp only[kj];split
                  · rename_i e;have:=eL e;omega
                  · rfl
         | cons p r C=>
           intro d
           simp only[List.all_cons,Bool.and_eq_true] at d
           simp only[kj]
           cases D:Nat.beq p.1 i with
           | true=>have:=jK D;have:=eL d.1;omega
           | false=>exact C d.2
       exact this b A
     refine aJ.ax (σ:=kj b N nx) (uS g) (fun r S E q m=>w _ (uS g) f r S E q m) (Kf v.2 (by simpa [tq] using j)) (by rw[gB v.1];exact sy.refl _) ?_ h
     · obtain⟨h0,h1⟩:=C6 g
       refine⟨fun id o e=>?_,fun id aQ=>?_,fun k=>?_,fun id aQ=>?_⟩
       · refine AZ B (kj b N nx id) (o.ax (kj b N nx)) ?_
         exact List.mem_map.2 ⟨(id,o),wT (nx:=N) e,rfl⟩
       · show p≤kj b N nx id
         have aQ:p≤id:=aQ
         rcases Nat.lt_or_ge (kj b N nx id) p with t | u
         · have:=uS g _ _ (f _ (Nat.lt_of_lt_of_le t n))
           omega
         · exact u
       · show kj b N nx (N+k)=nx+k
         rcases h1 (N+k) with⟨x,y⟩ | ⟨x,y⟩ | ⟨x,y,z⟩
         · omega
         · rw[y];omega
         · omega
       · have aQ:id<N:=aQ
         show kj b N nx id<nx
         rcases h1 id with⟨x,y⟩ | ⟨x,y⟩ | ⟨x,y,z⟩<;>omega
 | _=>simp[tq] at j;subst j;exact h.elim
theorem FK (e:uM a Qf)(b:List (Nat×Nat))(N nx:Nat){l:List (Nat×ak)}(f:tZ b N nx [] []=true)(g:(b.all fun p=>Nat.ble a p.1)=true)(d:a≤N)(i:LV (kj b N nx) c)(j:ls.length=tq c)(k:ls2=ls.map (hJ (kj b N nx)))(m:bj (oL nx l2) (sO (kj b N nx) l))(h:aJ P Qf (jg c ls (oL N l))):aJ P Qf (jg c ls2 (oL nx l2)):=
 C7 (p:=0) (Nat.zero_le _) e b N nx f g d i j k m h
def Fa (P:Program)(D:sw)(o:Oper):Option cY:=
 match rP D.F D.ops o,bT o.op,hU o.op,jS (al D.eH o.after.toList) D.es D.S.nx (nq D.S.lim (hZ D.F (iA o.op))) with
 | some true,false,none,true=>ze P D.F.eval ⟨D.S.nx,D.S.lim,seen D.S (al D.eH o.after.toList) D.j9 (hZ D.F (iA o.op)) .nil⟩ o.op
 | _,_,_,_=>none
def La (P:Program)(s:St):Option cY:=
 match s with
 | .fE D _=>match D.os with
   | o::_=>Fa P D o
   | []=>none
 | _=>none
def Jv (r:cY)(s:St):St:=
 match s with
 | .fE D k=>match D.os with
   | o::os=>Am 5 (ui D o os (al D.eH o.after.toList) k ⟨D.S.nx,D.S.lim,seen D.S (al D.eH o.after.toList) D.j9 (hZ D.F (iA o.op)) .nil⟩ (nq D.S.lim (hZ D.F (iA o.op)))
    (some ⟨D.S.nx,D.S.lim,seen D.S (al D.eH o.after.toList) D.j9 (hZ D.F (iA o.op)) .nil⟩) (some r))
   | []=>.bad 5
 | _=>.bad 5
theorem XA {D:sw}{k:cI}{o:Oper}{os:List Oper}{r:cY}(g:D.os=o::os)(h:Fa P D o=some r)
   (q:aJ P Qf (Am 5 (ui D o os (al D.eH o.after.toList) k ⟨D.S.nx,D.S.lim,seen D.S (al D.eH o.after.toList) D.j9 (hZ D.F (iA o.op)) .nil⟩ (nq D.S.lim (hZ D.F (iA o.op)))
    (some ⟨D.S.nx,D.S.lim,seen D.S (al D.eH o.after.toList) D.j9 (hZ D.F (iA o.op)) .nil⟩) (some r)))):aJ P Qf (.fE D k):=by
 unfold Fa at h
 split at h<;>try (simp at h;done)
 rename_i i d p j
 rw[mE] at h
 have b:∀ {nx lim id ob},(⟨nx,lim,seen D.S (al D.eH o.after.toList) D.j9 (hZ D.F (iA o.op)) .nil⟩:af).get id=some ob→id∈hZ D.F (iA o.op)∧D.S.get id=some ob∧iU (al D.eH o.after.toList) D.j9 id=true:=by
   intro nx lim id ob e
   have hi:=af.dY e
   rw[af.bY hi] at e
   rcases w7 hi e with q | q
   · rw[PT.get_nil] at q;simp at q
   · exact q
 generalize t:seen D.S (al D.eH o.after.toList) D.j9 (hZ D.F (iA o.op)) .nil=m at *
 cases h2:ui D o os (al D.eH o.after.toList) k ⟨D.S.nx,D.S.lim,m⟩ (nq D.S.lim (hZ D.F (iA o.op))) (some ⟨D.S.nx,D.S.lim,m⟩) (some r) with
 | none=>rw[h2] at q;exact q.elim
 | some s=>
   rw[h2] at q
   exact uy (E:=⟨D.S.nx,D.S.lim,m⟩) g i d (by rw[h];exact h2) rfl (.inl rfl) (fun id ob e=>(b e).2) (fun id ob e n _=>oB.2 ⟨(b e).1,n⟩) (fun id e=>(oB.1 e).2) (fun id e f=>pk j id e f) (.inl rfl) (by simpa only[Am] using q)
variable {s : St}
theorem XB (e:cF T P)(d:P.follows .mixedOrders=true)(n:Nat)(o:Option cY)(r:cY)(h:La P (ab T P n s)=o)(f:o=some r)(q:aJ P Qf (Jv r (ab T P n s))):aJ P Qf s:=by
 refine cj e d n ?_
 generalize ab T P n s=s at h q
 have h:=h.trans f
 cases s with
 | fE D k=>
   simp only[La,Jv] at h q
   cases b:D.os with
   | nil=>rw[b] at h;simp at h
   | cons o os=>rw[b] at h q;exact XA b h q
 | _=>simp[La] at h
def KU (T:FT)(P:Program)(s:St):Option (Nat×List AV×af):=
 match s with
 | .fE D _=>match D.os with
   | o::_=>match hU o.op,rP D.F D.ops o,hidden (al D.eH o.after.toList) D.j9 with
     | some c,some true,some aQ=>match re T D.F c P with
       | some (g,_,args)=>some (g,args,⟨D.S.nx,D.S.nx,jf D.S.m aQ⟩)
       | none=>none
     | _,_,_=>none
   | []=>none
 | _=>none
def LW (v:AV)(b:af)(s:St):St:=
 match s with
 | .fE D k=>match D.os with
   | o::os=>match hidden (al D.eH o.after.toList) D.j9 with
     | some aQ=>.fE (D.jg o os ⟨D.S.nx,D.S.nx,jf D.S.m aQ⟩ (al D.eH o.after.toList) .quiet v b) k
     | none=>.bad 5
   | []=>.bad 5
 | _=>.bad 5
theorem M8 (z:cF T P)(j:P.follows .mixedOrders=true)(n:Nat)(g:Nat)(args:List AV)(E:af)(v:AV)(p:af)(h:KU T P (ab T P n s)=some (g,args,E))(B:dc P g args E fun r S=>r=.ret v∧S=p)(q:aJ P Qf (LW v p (ab T P n s))):aJ P Qf s:=by
 refine cj z j n ?_
 generalize ab T P n s=s at h q
 cases s with
 | fE D k=>
   simp only[KU,LW] at h q
   cases b:D.os with
   | nil=>rw[b] at h;simp at h
   | cons o os=>
     rw[b] at h q
     simp only at h q
     split at h<;>try (simp at h;done)
     rename_i c aQ d C hh
     split at h<;>simp only[ar,iy,reduceCtorEq] at h
     rename_i G
     obtain⟨rfl,rfl,rfl⟩:=h
     rw[hh] at q
     simp only at q
     obtain⟨M,H⟩:=mM z d G
     have u:=gL d
     refine fH.mono (fun Q q=>?_) q
     refine pz.step q b (wS ..) (fun R S0 E0 O v0 U A I J=>?_)
     have f:nh P D.ops o D.F.get ⟨D.S.nx,D.S.nx,jf D.S.m aQ⟩ v p:=nh.call C u (H _) B
     obtain⟨_,w,x⟩:=A.aQ hh
     have t:∀ id ob,(⟨D.S.nx,D.S.nx,jf D.S.m aQ⟩:af).get id=some ob→id∉aQ∧D.S.get id=some ob:=by
      intro id ob e
      rw[x] at e
      split at e
      · simp at e
      · exact⟨by assumption,e⟩
     have K:=J _ _ _ f rfl fun id ob e=>(t id ob e).2
     rw[AW]
     generalize y:ja p (af.nx ⟨D.S.nx,D.S.nx,jf D.S.m aQ⟩) py [v] []=nw
     have:=A.news I b (ids:=[]) (nw:=nw) (Eo:=some ⟨D.S.nx,D.S.nx,jf D.S.m aQ⟩) f K rfl (.inr rfl) (fun id ob e=>⟨(t id ob e).2,w id (t id ob e).1⟩) (fun id ob e L i=>absurd i (Nat.not_lt.2 L)) (fun id e _=>by simp at e) (fun id e _ i=>by simp at e)
      (fun id ob e=>by
       rw[←y] at e
       rcases oz e with q | q
       · simp at q
       · exact q) (.inl rfl)
     exact this
 | _=>simp[KU] at h
end
end
end Go.Eng
namespace Go.Eng
noncomputable section
variable {α : Type}
def dA (l:List α)(i:Int):Option α:=if 0≤i then l[i.toNat]? else none
def du (k:IntKind)(n:Int):Bool:=decide (k.wrap n=n)
variable {c : Bool} {x : Option α}
theorem kY {r:α}(h:(if c then x else none)=some r):c=true∧x=some r:=by
 cases c with
 | true=>exact⟨rfl,h⟩
 | false=>simp at h
theorem bC {β:Type}{f:α→Option β}{r:β}(h:(x>>=f)=some r):∃ a,x=some a∧f a=some r:=by
 cases x with
 | none=>simp at h
 | some a=>exact⟨a,rfl,h⟩
variable {y r : Option α}
theorem wy (e:c=true)(h:(if c then x else y)=r):x=r:=by rw[if_pos e] at h;exact h
theorem wA (e:c=false)(h:(if c then x else y)=r):y=r:=by rw[if_neg (by rw[e];simp)] at h;exact h
variable {k : IntKind}
theorem DO {n:Int}(h:du k n=true):k.wrap n=n:=of_decide_eq_true h
def dX (k:IntKind)(n:Int):AV:=.sc (.int k n)
def rR (b:Bool):AV:=.sc (.bool b)
def fV (s:ByteArray):AV:=.sc (.string s)
variable {i : Int}
theorem wU {l:List α}{x:α}(h:dA l i=some x):∃ n:Nat,i=n∧l[n]? = some x:=by
 unfold dA at h
 split at h
 · rename_i h0;exact⟨i.toNat,by omega,h⟩
 · simp at h
variable {enc : α → AV}
theorem XC {P:Program}{t el n:Nat}{xs:List α}{x:α}{cs:List AV}(hx:dA xs i=some x)(h1:P.underlying t=some (.slice el))(h2:pT P el=some n)(b:(enc x).cells=cs)(d:cs.length=n) :
  dG P af.empty t (.lit (xs.map enc)) (.sc (.int k i))=some (.eV cs):=by
 obtain⟨m,rfl,f⟩:=wU hx
 have e:nth (xs.map enc) m=some (enc x):=by rw[iB];simp[f]
 show dG P af.empty t (.lit (xs.map enc)) (.sc (.int k (.ofNat m)))=_
 simp only[dG,h1,h2,e,b,d,Nat.beq_refl]
theorem Pq (enc:α→AV)(l:List α):some (AV.sc (.int .i64 ((l.map enc).length:Nat)))=some (AV.sc (.int .i64 (l.length:Int))):=by rw[List.length_map]
theorem X6 (v:AV)(l:List AV):br (v::l)=(aq v&&br l):=by simp only[br];cases aq v<;>rfl
theorem bH (h:∀ x,aq (enc x)=true)(l:List α):br (l.map enc)=true:=by
 induction l with
 | nil=>simp[br]
 | cons a l b=>simp[br,h,b]
def iW (f:α→AV)(l:List α):AV:=.lit (l.map f)
theorem aD {f:α→AV}(h:∀ x,aq (f x)=true)(l:List α):aq (iW f l)=true:=by simp[iW,aq,bH h]
@[simp] theorem Yx (k:IntKind)(n:Int):aq (dX k n)=true:=by simp[dX,aq]
@[simp] theorem Yy (b:Bool):aq (rR b)=true:=by simp[rR,aq]
@[simp] theorem Yz (s:ByteArray):aq (fV s)=true:=by simp[fV,aq]
mutual
theorem AV.iG {σ:Nat→Nat}:∀ {v:AV},aq v=true→v.ax σ=v
 | .sc v,_=>by rw[AV.ax]
 | .agg cs,h=>by rw[AV.ax,jT (by simpa [aq] using h)]
 | .eG,_=>by rw[AV.ax]
 | .an,_=>by rw[AV.ax]
 | .lit es,h=>by rw[AV.ax,jT (by simpa [aq] using h)]
 | .eV cs,h=>by rw[AV.ax,jT (by simpa [aq] using h)]
 | .ptr id i j,h=>by simp[aq] at h
 | .aj id o l,h=>by simp[aq] at h
 | .dJ id,h=>by simp[aq] at h
 | .fn f a b,h=>by
   have h:br a=true∧br b=true:=by
    simp only[aq] at h
    split at h
    · rename_i e;exact⟨e,h⟩
    · simp at h
   rw[AV.ax,jT h.1,jT h.2]
 | .fq t v,h=>by rw[AV.ax,AV.iG (v:=v) (by simpa [aq] using h)]
 | .bm d,h=>by rw[AV.ax,jT (by simpa [aq] using h)]
 | .pq id,h=>by simp[aq] at h
 | .clip v,h=>by rw[AV.ax,AV.iG (v:=v) (by simpa [aq] using h)]
 | .top,_=>by rw[AV.ax]
theorem jT {σ:Nat→Nat}:∀ {l:List AV},br l=true→dW σ l=l
 | [],_=>by rw[dW]
 | v::l,h=>by
   have h:aq v=true∧br l=true:=by
    simp only[br] at h
    split at h
    · rename_i e;exact⟨e,h⟩
    · simp at h
   rw[dW,AV.iG h.1,jT h.2]
end
inductive Fz (S : af) : AV → AV → Prop
 | pure {v : AV} (h : aq v = true) : Fz S v v
 | an : Fz S .an (.lit [])
 | eG : Fz S .eG (.lit [])
 | aj {id len sz : Nat} {es es' : List AV} (hg : S.get id = some (.arr sz es)) (hl : len = es.length) (hs : es'.length = es.length)
  (hc : ∀ (i : Nat) (e e' : AV), es[i]? = some e → es'[i]? = some e' → e'.cells.length = e.cells.length)
  (h : ∀ (i j : Nat) (e e' a a' : AV), es[i]? = some e → es'[i]? = some e' → e.cells[j]? = some a → e'.cells[j]? = some a' → Fz S a a') : Fz S (.aj id 0 len) (.lit es')
 | agg {cs cs' : List AV} (hl : cs'.length = cs.length) (h : ∀ (k : Nat) (a a' : AV), cs[k]? = some a → cs'[k]? = some a' → Fz S a a') : Fz S (.agg cs) (.agg cs')
 | bm {cs cs' : List AV} (hl : cs'.length = cs.length) (h : ∀ (k : Nat) (a a' : AV), cs[k]? = some a → cs'[k]? = some a' → Fz S a a') : Fz S (.bm cs) (.bm cs')
 | fq {t : TypeId} {v v' : AV} (h : Fz S v v') : Fz S (.fq t v) (.fq t v')
variable {S : af} {id len sz : Nat} {es : List AV}
theorem Fz.Ap (b:S.get id=some (.arr sz es))(d:len=es.length)(f:br es=true):Fz S (.aj id 0 len) (.lit es):=
 .aj b d rfl (fun i e g p q=>by rw[p] at q;simp only[ar] at q;rw[q]) (fun i j e g a a' p q r s=>by
  rw[p] at q;simp only[ar] at q;subst q
  rw[r] at s;simp only[ar] at s;subst s
  exact .pure (kb (eA f p) r))
inductive NU (S : af) : List AV → List AV → Prop
 | nil : NU S [] []
 | cons {e e' : AV} {l l' : List AV} (h : Fz S e e') (t : NU S l l') : NU S (e :: l) (e' :: l')
theorem Fz.vQ {e n:AV}(h:Fz S e n):n.cells.length=e.cells.length∧∀(j:Nat) (a a' : AV),e.cells[j]? = some a→n.cells[j]? = some a' → Fz S a a' := by
 have one:∀ {u f:AV},u.cells=[u]→f.cells=[f]→Fz S u f→f.cells.length=u.cells.length∧∀(j:Nat) (a a' : AV),u.cells[j]? = some a→f.cells[j]? = some a' → Fz S a a' := by
  intro u f h1 h2 p
  rw[h1,h2]
  refine⟨rfl,fun j a a' g m=>?_⟩
  cases j with
  | zero=>simp at g m;subst g;subst m;exact p
  | succ j=>simp at g
 cases h with
 | pure h=>exact⟨rfl,fun j a a' g m=>by rw[g] at m;simp only[ar] at m;subst m;exact .pure (kb h g)⟩
 | an=>exact one rfl rfl .an
 | eG=>exact one rfl rfl .eG
 | aj a b c d e=>exact one rfl rfl (.aj a b c d e)
 | agg o h=>exact⟨o,h⟩
 | bm o h=>exact one rfl rfl (.bm o h)
 | fq h=>exact one rfl rfl (.fq h)
variable {l l' : List AV}
theorem NU.spec (h:NU S l l'):l'.length=l.length∧∀(i:Nat) (e b:AV),l[i]? = some e→l'[i]? = some b→Fz S e b:=by
 induction h with
 | nil=>exact⟨rfl,fun i e b h=>by simp at h⟩
 | cons h t g=>
   refine⟨by simp[g.1],fun i e b d f=>?_⟩
   cases i with
   | zero=>simp at d f;subst d;subst f;exact h
   | succ i=>exact g.2 i e b (by simpa using d) (by simpa using f)
theorem Fz.Qn {es' : List AV}(d:S.get id=some (.arr sz es))(f:len=es.length)(h:NU S es es'):Fz S (.aj id 0 len) (.lit es'):=
 .aj d f h.spec.1 (fun i e b p q=>(h.spec.2 i e b p q).vQ.1) (fun i j e b a a' p q r s=>(h.spec.2 i e b p q).vQ.2 j a a' r s)
theorem Fz.Pr : Fz S (.agg []) (.agg []):=.agg rfl fun k a a' e=>by simp at e
variable {a a' : AV}
theorem Fz.M9 (h:Fz S a a')(t:Fz S (.agg l) (.agg l')):Fz S (.agg (a::l)) (.agg (a' :: l')):=by
 have key:l'.length=l.length∧∀(k:Nat) (a a' : AV),l[k]? = some a→l'[k]? = some a' → Fz S a a' := by
  cases t with
  | pure h=>exact⟨rfl,fun k a a' e d=>by rw[e] at d;simp only[ar] at d;subst d;exact .pure (eA (by simpa [aq] using h) e)⟩
  | agg f h=>exact⟨f,h⟩
 refine .agg (by simp[key.1]) fun k b g e d=>?_
 cases k with
 | zero=>simp at e d;subst e;subst d;exact h
 | succ k=>exact key.2 k b g (by simpa using e) (by simpa using d)
theorem Fz.Ps : Fz S (.bm []) (.bm []):=.bm rfl fun k a a' e=>by simp at e
theorem Fz.iH (h:Fz S a a')(t:Fz S (.bm l) (.bm l')):Fz S (.bm (a::l)) (.bm (a' :: l')):=by
 have key:l'.length=l.length∧∀(k:Nat) (a a' : AV),l[k]? = some a→l'[k]? = some a' → Fz S a a' := by
  cases t with
  | pure h=>exact⟨rfl,fun k a a' e d=>by rw[e] at d;simp only[ar] at d;subst d;exact .pure (eA (by simpa [aq] using h) e)⟩
  | bm f h=>exact⟨f,h⟩
 refine .bm (by simp[key.1]) fun k b g e d=>?_
 cases k with
 | zero=>simp at e d;subst e;subst d;exact h
 | succ k=>exact key.2 k b g (by simpa using e) (by simpa using d)
variable {v v' : AV}
theorem Fz.YA (h:Fz S v v'):v'.cells.length=v.cells.length:=by
 cases h with
 | pure h=>rfl
 | agg b h=>exact b
 | _=>rfl
theorem Fz.ax {σ:Nat→Nat}{S t:af}(w:y9 σ S t){v v' : AV}(h:Fz S v v'):Fz t (v.ax σ) (v'.ax σ):=by
 have key:∀ {l:List AV} {k:Nat} {a:AV},(dW σ l)[k]? = some a→∃ b,l[k]? = some b∧a=b.ax σ:=by
   intro l k a e
   rw[iE] at e
   cases u:l[k]? with
   | none=>rw[u] at e;simp at e
   | some b=>rw[u] at e;simp at e;exact⟨b,rfl,e.symm⟩
 induction h with
 | pure h=>rw[AV.iG h];exact .pure h
 | an=>rw[AV.ax,AV.ax,dW];exact .an
 | eG=>rw[AV.ax,AV.ax,dW];exact .eG
 | aj z n o A h d=>
   rw[AV.ax,AV.ax]
   refine .aj (w.get _ _ z) (by rw[aF];exact n) (by rw[aF,aF];exact o) (fun i e B p q=>?_) (fun i j e B a a' p q r s=>?_)
   · obtain⟨b,f,rfl⟩:=key p
     obtain⟨g,m,rfl⟩:=key q
     rw[AV.fT,AV.fT,aF,aF]
     exact A i b g f m
   · obtain⟨b,f,rfl⟩:=key p
     obtain⟨g,m,rfl⟩:=key q
     rw[AV.fT] at r s
     obtain⟨c,C,rfl⟩:=key r
     obtain⟨c', s', rfl⟩:=key s
     exact d i j b g c c' f m C s'
 | agg n h d=>
   rw[AV.ax,AV.ax]
   refine .agg (by rw[aF,aF];exact n) fun k a a' p q=>?_
   obtain⟨b,f,rfl⟩:=key p
   obtain⟨g,m,rfl⟩:=key q
   exact d k b g f m
 | bm n h d=>
   rw[AV.ax,AV.ax]
   refine .bm (by rw[aF,aF];exact n) fun k a a' p q=>?_
   obtain⟨b,f,rfl⟩:=key p
   obtain⟨g,m,rfl⟩:=key q
   exact d k b g f m
 | fq h d=>rw[AV.ax,AV.ax];exact .fq d
theorem Fz.sound {g C:Gh}{w:World}(hi:Inv S g w)(I:Gh.frozen S g w C)(h:Fz S v v'):∀ {x:Value},VR g v x→VR C v' x:=by
 induction h with
 | pure h=>intro x f;exact f.mono I.1
 | an=>intro x f;cases f;exact .gG
 | eG=>intro x f;cases f;exact .gG
 | aj o n u J h p=>
   intro x f
   cases f with
   | aj K B V=>
     rename_i l
     obtain⟨l', D,W,M⟩:=hi.ob _ _ o
     rw[K] at D;simp only[ar] at D;subst D
     obtain⟨c,t,N,X,E,Y,O,Q⟩:=M
     have F:=I.2.2 _ _ l c t (0,0) o K N
     rename_i es es' cap
     subst n
     rw[←u]
     have:VR C (.lit es') (.slice (some ⟨l.cd,l.base+0*l.sz,none⟩) es'.length cap):=by
      refine .lit (sz:=l.sz) F (fun e R=>?_) (by rw[u,E];omega) (by rw[u];exact B) (fun i j e a x m z U=>?_)
      · obtain⟨k,L⟩:=List.getElem?_of_mem R
        have d:k<es.length:=by rw[←u];exact(List.getElem?_eq_some_iff.1 L).1
        have b:es[k]? = some es[k]:=oe d
        rw[J k _ e b L,E]
        exact O _ (List.getElem_mem d)
      · have d:i<es.length:=by rw[←u];exact(List.getElem?_eq_some_iff.1 m).1
        have b:es[i]? = some es[i]:=oe d
        have G:j<es[i].cells.length:=by rw[←J i _ e b m];exact(List.getElem?_eq_some_iff.1 z).1
        have A:es[i].cells[j]? = some es[i].cells[j]:=oe G
        exact p i j _ e _ a b m A z (Q i j _ _ x b A (by rw[←E,←U];congr 1;omega))
     exact this
   | ga=>
     obtain rfl:=List.length_eq_zero_iff.1 (u.trans n.symm)
     exact .gG
 | agg n h p=>
   intro x f
   cases f with
   | agg q hh=>
     refine .agg (by rw[n];exact q) fun k a x m z=>?_
     rename_i cs H xs
     have d:k<cs.length:=by rw[←n];exact(List.getElem?_eq_some_iff.1 m).1
     have b:cs[k]? = some cs[k]:=oe d
     exact p k _ a b m (hh k _ x b z)
 | bm n h p=>
   intro x f
   cases f with
   | bm q hh=>
     refine .bm (by rw[n];exact q) fun k a x m z=>?_
     rename_i cs H xs
     have d:k<cs.length:=by rw[←n];exact(List.getElem?_eq_some_iff.1 m).1
     have b:cs[k]? = some cs[k]:=oe d
     exact p k _ a b m (hh k _ x b z)
 | fq h p=>intro x f;cases f with | fq hh=>exact .fq (p hh)
def xJ (s:St):Option AV:=
 match s with
 | .done (.ret v) _=>some v
 | _=>none
section
variable {T : FT} {P : Program} {Qf : ic → af → Prop}
variable {s : St}
theorem XD (d:cF T P)(b:P.follows .mixedOrders=true)(n:Nat)(h:xJ (ab T P n s)=some v)(e:∀ S,Qf (.ret v) S):aJ P Qf s:=by
 refine cj d b n ?_
 generalize ab T P n s=s at h
 unfold xJ at h
 split at h<;>simp only[ar,reduceCtorEq] at h
 subst h
 exact e _
def RQ (v' : AV):ic→af→Prop:=fun r S=>∃ v,r=.ret v∧Fz S v v'
theorem CI (d:aq v' = true):uM 0 (RQ v'):=by
 rintro σ b _ r S f ⟨v,rfl,h⟩ e
 refine⟨v.ax σ,rfl,?_⟩
 have:=h.ax e
 rw[AV.iG d] at this
 exact this
theorem acq (d:cF T P)(b:P.follows .mixedOrders=true)(n:Nat)(S:af)(h:ab T P n s=.done (.ret v) S)(e:Fz S v v'):aJ P (RQ v') s:=
 abl d b n h ⟨v,rfl,e⟩
theorem Pt (d:cF T P)(b:P.follows .mixedOrders=true)(n:Nat)(h:xJ (ab T P n s)=some v)(e:aq v=true):aJ P (RQ v) s:=
 XD d b n h fun _=>⟨v,rfl,.pure e⟩
theorem Pu (D:cF T P){f:Nat}{args:List AV}(E:br args=true)(F:aq v=true)(h:aJ P (RQ v) (St.start T f args af.empty))(S:af) :
   dc P f args S fun r n=>r=.ret v∧n=S:=by
 refine dc.frame E F ?_ S
 have h:=u0 D h
 intro g w xs hx hi
 refine(h g w xs hx hi).mono fun e w' ⟨r,n,g', ⟨v0,G,H⟩,j,p,d⟩=>?_
 subst G
 have z:=Gh.ir p
 have u:∀ id,(⟨n.nx,n.lim,.nil⟩:af).get id=none:=fun id=>wR _ _ id
 have m:∀ b c,(g'.freeze n w').ro b=some c→g'.ro b=some c∨(∃ t fz,w'.heap[b]? = some (.cells c t fz))∧∃ id o l,n.get id=some o∧g'.ph id=some l∧l.cd=b:=by
   intro b c e
   simp only[Gh.freeze] at e
   split at e
   · rename_i c' I;simp only[ar] at e;subst e;exact .inl I
   · split at e
     · rename_i c' t fz hh
       split at e<;>simp only[ar,reduceCtorEq] at e
       rename_i A
       subst e;exact .inr ⟨⟨t,fz,hh⟩,A⟩
     · simp at e
 refine⟨.ret v,⟨n.nx,n.lim,.nil⟩,g'.freeze n w', rfl,?_,⟨?_,?_,?_,?_⟩,⟨d.size,d.os,d.tape,d.output,d.gQ,?_,Gh.le_trans d.ng z.1,d.nx,d.lim,?_,d.rM,?_,fun id _ _=>u id,d.fz⟩⟩
 · cases e with
   | returned x=>exact Fz.sound p z H j
   | panicked c=>exact j.elim
   | outgrown=>exact j.elim
 · intro b c e
   rcases m b c e with q | ⟨q,_⟩
   · exact p.ro b c q
   · exact q
 · intro id o e;rw[u] at e;simp at e
 · intro id M o o' l l' e;rw[u] at e;simp at e
 · exact p.fresh
 · intro id o l e;rw[u] at e;simp at e
 · intro id aQ;exact absurd aQ (Nat.not_lt_zero id)
 · intro b c e B
   rcases m b c e with q | ⟨_,id,o,l,J,K,L⟩
   · exact d.wC b c q B
   · obtain⟨N,o0,O,C,_⟩:=d.own id o l J (Nat.zero_le id) K (by rw[L];exact B)
     rw[af.di] at C;simp at C
end
end
end Go.Eng
namespace Go.Eng
noncomputable section
def pB (σ:Nat→Nat):aC→Bool
 | .vC id=>Nat.beq (σ id) id
 | .nj id=>Nat.beq (σ id) id
 | _=>true
def wV (σ:Nat→Nat):gx→Bool
 | .mf id=>Nat.beq (σ id) id
 | .call _ cap args=>br cap&&br args
 | .sI _=>true
def w9 : de→Bool
 | .panicking _=>false
 | _=>true
def I1 (σ:Nat→Nat):Option Nat→Bool
 | some id=>Nat.beq (σ id) id
 | none=>true
def jc (σ:Nat→Nat)(F:ad):Bool:=F.todo.all (pB σ)&&F.defers.all (wV σ)&&w9 F.mode&&w9 F.cm&&I1 σ F.round
def qa (σ:Nat→Nat):cI→Bool
 | .nil=>true
 | .call _ F _ _ _ td next=>jc σ F&&td.all (pB σ)&&qa σ next
 | .qT _ F ds next=>jc σ F&&ds.all (wV σ)&&qa σ next
 | .loop _ F d i td next=>jc σ F&&td.all (pB σ)&&Nat.beq (σ d) d&&Nat.beq (σ i) i&&qa σ next
 | .round _ F _ _ _ td id next=>jc σ F&&td.all (pB σ)&&Nat.beq (σ id) id&&qa σ next
 | _=>false
def wK (σ:Nat→Nat):St→Bool
 | .run _ F _ k=>jc σ F&&qa σ k
 | _=>false
section
variable {σ : Nat → Nat}
theorem lB : ∀ {l:List aC},l.all (pB σ)=true→l.map (aC.ax σ)=l:=by
 intro l
 induction l with
 | nil=>intro _;rfl
 | cons a l b=>
   intro h
   simp only[List.all_cons,Bool.and_eq_true] at h
   rw[List.map_cons,b h.2]
   cases a with
   | vC id=>simp only[aC.ax];rw[jK h.1]
   | nj id=>simp only[aC.ax];rw[jK h.1]
   | _=>rfl
theorem vZ : ∀ {l:List gx},l.all (wV σ)=true→l.map (gx.ax σ)=l:=by
 intro l
 induction l with
 | nil=>intro _;rfl
 | cons a l b=>
   intro h
   simp only[List.all_cons,Bool.and_eq_true] at h
   rw[List.map_cons,b h.2]
   cases a with
   | mf id=>simp only[gx.ax];rw[jK h.1]
   | sI bs=>rfl
   | call f cap args=>
     have:=h.1
     simp only[wV,Bool.and_eq_true] at this
     simp only[gx.ax,jT this.1,jT this.2]
theorem yT {m:de}(h:w9 m=true):m.ax σ=m:=by
 cases m<;>first | rfl | simp[w9] at h
theorem HU {r:Option Nat}(h:I1 σ r=true):r.map σ=r:=by
 cases r with
 | none=>rfl
 | some id=>simp only[Option.map_some];rw[jK h]
theorem gC {F:ad}(h:jc σ F=true):Dy σ F=wJ F:=by
 simp only[jc,Bool.and_eq_true] at h
 obtain⟨⟨⟨⟨a,b⟩,c⟩,d⟩,e⟩:=h
 simp only[Dy,wJ,lB a,vZ b,yT c,yT d,HU e]
theorem Kg : ∀ {k:cI},qa σ k=true→Ao σ k:=by
 intro k
 induction k with
 | nil=>intro _;trivial
 | hole G=>intro h;simp[qa] at h
 | call fn F o all rest td next a=>intro h;simp only[qa,Bool.and_eq_true] at h;exact⟨gC h.1.1,lB h.1.2,a h.2⟩
 | qT fn F ds next a=>intro h;simp only[qa,Bool.and_eq_true] at h;exact⟨gC h.1.1,vZ h.1.2,a h.2⟩
 | loop fn F d i td next a=>
   intro h;simp only[qa,Bool.and_eq_true] at h
   exact⟨gC h.1.1.1.1,lB h.1.1.1.2,jK h.1.1.2,jK h.1.2,a h.2⟩
 | round fn F o all rest td id next a=>
   intro h;simp only[qa,Bool.and_eq_true] at h
   exact⟨gC h.1.1.1,lB h.1.1.2,jK h.1.2,a h.2⟩
 | fE D o os E c aQ b next a=>intro h;simp[qa] at h
variable {s : St}
theorem AG (h:wK σ s=true):LV σ s:=by
 cases s with
 | run fn F S k=>simp only[wK,Bool.and_eq_true] at h;exact⟨gC h.1,Kg h.2⟩
 | _=>simp[wK] at h
end
def Fb (n:Nat):List (Nat×ak)→Bool
 | []=>false
 | (k,_)::r=>match Nat.beq k n with
   | true=>true
   | false=>Fb n r
def kR : List (Nat×ak)→Bool
 | []=>true
 | (k,_)::r=>match Fb k r with
   | true=>false
   | false=>kR r
theorem Na : ∀(l:List (Nat×ak)) (m:PT) (id:Nat),Fb id l=false→PT.get dep (EZ m l) id=PT.get dep m id:=by
 intro l
 induction l with
 | nil=>intro m id _;rfl
 | cons a l d=>
   obtain⟨k,o⟩:=a
   intro m id h
   simp only[Fb] at h
   split at h
   · simp at h
   · rename_i c
     have b:k≠id:=by rintro rfl;rw[Nat.beq_refl] at c;simp at c
     show PT.get dep (EZ (PT.set dep m k (some o)) l) id=_
     rw[d _ _ h,PT.sj _ _ _ _ _ b]
theorem D5 : ∀(l:List (Nat×ak)) (m:PT),kR l=true→∀ id o,(id,o)∈l→PT.get dep (EZ m l) id=some o:=by
 intro l
 induction l with
 | nil=>intro m _ id o h;simp at h
 | cons a l b=>
   obtain⟨k,x⟩:=a
   intro m h id o c
   simp only[kR] at h
   split at h
   · simp at h
   · rename_i d
     show PT.get dep (EZ (PT.set dep m k (some x)) l) id=some o
     rcases List.mem_cons.1 c with e | e
     · simp only[iy] at e;obtain⟨rfl,rfl⟩:=e
       rw[Na _ _ _ d,PT.bD]
     · exact b _ h id o e
variable {nx : Nat} {l : List (Nat × ak)}
theorem x7 (h:kR l=true):bj (oL nx l) l:=by
 have:∀ r:List (Nat×ak),(∀ id o,(id,o)∈r→(id,o)∈l)→bj (oL nx l) r:=by
  intro r
  induction r with
  | nil=>intro _;trivial
  | cons p r b=>
    obtain⟨i,x⟩:=p
    intro a
    exact⟨D5 l .nil h i x (a i x (List.mem_cons_self ..)),b fun id o e=>a id o (ug _ e)⟩
 exact this l fun _ _ e=>e
theorem sg (N nx i:Nat):kj [] N nx i=if N≤i then nx+(i-N) else i:=by
 simp only[kj]
 split
 · rename_i e;rw[if_pos (eL e)]
 · rename_i e;rw[if_neg (fun q=>by rw[tn q] at e;simp at e)]
theorem pC (c a:Nat)(r:List (Nat×Nat))(N nx i:Nat):kj ((c,a)::r) N nx i=if c=i then a else kj r N nx i:=by
 simp only[kj]
 cases b:Nat.beq c i with
 | true=>rw[if_pos (jK b)]
 | false=>rw[if_neg (fun q=>by rw[q,Nat.beq_refl] at b;simp at b)]
theorem gb {α:Type}{σ:Nat→Nat}{enc:α→AV}(h:∀ x,aq (enc x)=true)(l:List α):dW σ (l.map enc)=l.map enc:=jT (bH h l)
def wB (P:Program)(s:St):Option cY:=
 match s with
 | .run fn F S k=>NI P (.run fn F S k)
 | .fE D k=>La P (.fE D k)
 | _=>none
def eM (s:St):af:=
 match s with
 | .run _ _ S _=>S
 | .fE D _=>match D.os with
   | o::_=>⟨D.S.nx,D.S.lim,seen D.S (al D.eH o.after.toList) D.j9 (hZ D.F (iA o.op)) .nil⟩
   | []=>af.empty
 | _=>af.empty
def Lb (r:cY)(s:St):St:=
 match s with
 | .run fn F S k=>match r with
   | .val v a=>aA v (some a) (.run fn F S k)
   | .skip a=>aA (.bm []) (some a) (.run fn F S k)
   | _=>.bad 72
 | .fE D k=>Jv r (.fE D k)
 | _=>.bad 72
def nk (r:cY)(s:St):Bool:=
 match r with
 | .val _ _=>((db s).bind (·.dst)).isSome
 | .skip _ => !((db s).bind (·.dst)).isSome
 | _=>false
section
variable {T : FT} {P : Program} {Qf : ic → af → Prop}
variable {s : St}
theorem Md (c:cF T P)(a:P.follows .mixedOrders=true)(n:Nat)(o:Option cY)(r:cY)(h:wB P (ab T P n s)=o)(b:nk r (ab T P n s)=true)(f:o=some r)(q:aJ P Qf (Lb r (ab T P n s))):aJ P Qf s:=by
 refine cj c a n ?_
 generalize ab T P n s=s at h q b
 have h:=h.trans f
 cases s with
 | run fn F S k=>
   simp only[wB] at h
   cases r with
   | val v g=>exact IZ c h (by intro e;simp only[nk,e] at b;simp at b) q
   | skip g=>exact FI c h (by simp only[nk] at b;cases hx:(db (.run fn F S k)).bind (·.dst) with
    | none=>rfl
    | some d=>rw[hx] at b;simp at b) q
   | _=>simp[nk] at b
 | fE D k=>
   simp only[wB] at h
   exact XB c a 0 _ r h rfl q
 | _=>simp[wB] at h
def fB (r:af→cY)(s:St):St:=Lb (r (eM s)) s
def NJ : St→af
 | .done _ S=>S
 | _=>af.empty
theorem I2 (b:cF T P)(a:P.follows .mixedOrders=true)(n:Nat)(o:af→Option cY)(r:af→cY)(h:wB P (ab T P n s)=o (eM (ab T P n s)))(c:nk (r (eM (ab T P n s))) (ab T P n s)=true)(d:o (eM (ab T P n s))=some (r (eM (ab T P n s))))(q:aJ P Qf (fB r (ab T P n s))):aJ P Qf s:=Md b a n _ _ h c d q
variable {v : AV}
theorem Pv (d:cF T P)(a:P.follows .mixedOrders=true)(n:Nat){b:AV}(h:xJ (ab T P n s)=some v)(c:Fz (NJ (ab T P n s)) v b):aJ P (RQ b) s:=by
 refine cj d a n ?_
 generalize ab T P n s=s at h c
 unfold xJ at h
 split at h<;>simp only[ar,reduceCtorEq] at h
 subst h
 exact⟨_,rfl,c⟩
theorem XE (c:cF T P)(a:P.follows .mixedOrders=true)(n:Nat)(b:Bool)(h:wB P (ab T P n s)=some (.val (.sc (.bool b)) (eM (ab T P n s))))(d:nk (.val (.sc (.bool b)) (eM (ab T P n s))) (ab T P n s)=true)(e:b=true→aJ P Qf (Lb (.val (.sc (.bool true)) (eM (ab T P n s))) (ab T P n s)))(f:b=false→aJ P Qf (Lb (.val (.sc (.bool false)) (eM (ab T P n s))) (ab T P n s))):aJ P Qf s:=by
 refine Md c a n _ (.val (.sc (.bool b)) (eM (ab T P n s))) h d rfl ?_
 cases b with
 | true=>exact e rfl
 | false=>exact f rfl
theorem acr (g:cF T P)(d:P.follows .mixedOrders=true)(e:uM 0 Qf)(n:Nat)(f:List (List Nat))(ids:List Nat)(a:List (Nat×Nat))(N nx:Nat){c:St}{ls b:List (List (Nat×AV))}{l2:List (Nat×ak)}(k:mL (ab T P n s)=true)(h:q9 f ids (ab T P n s)=jg c b (oL nx l2))(m:tZ a N nx [] []=true)(o:wK (kj a N nx) c=true)(q:Nat.beq ls.length (tq c)=true)(u:kR l2=true)(w:b=ls.map (hJ (kj a N nx)))(x:l2=sO (kj a N nx) l)(y:aJ P Qf (jg c ls (oL N l))):aJ P Qf s:=
 DN g d e n f ids k h (FK e a N nx m (by
  induction a with
  | nil=>rfl
  | cons p r _=>simp) (Nat.zero_le _) (AG o) (jK q) w (by rw[←x];exact x7 u) y)
end
section
variable {P : Program} {α : Type} {enc : α → AV}
variable {n : Nat}
theorem lI (h:∀ x,(enc x).cells.length=n)(a:∀ x,(enc x).cells.all dj=true)(l:List α):sized n (l.map enc)=true:=by
 simp only[sized,List.all_map,List.all_eq_true]
 intro x _
 simp[h x,a x]
variable {S : af}
theorem gT {ys:List α}(src:AV)(h:src=.lit (ys.map enc)∨∃ id sz,src=.aj id 0 ys.length∧S.get id=some (.arr sz (ys.map enc))):gH S src=some (ys.map enc):=by
 rcases h with rfl | ⟨id,sz,rfl,h⟩
 · rfl
 · have a:Nat.ble ys.length ys.length=true:=tn (Nat.le_refl _)
   simp[gH,pY,h,a]
   rw[←List.length_map (f:=enc),List.take_length]
def BF (P:Program)(t el sz:Nat):Bool:=
 match P.underlying t,P.info? el,iC P el with
 | some (.slice a),some i,some z=>Nat.beq a el&&Nat.ble 1 i.size&&Nat.ble i.bytes 4096&&Nat.beq z.cells.length i.size&&z.cells.all dj&&Nat.beq sz i.size
 | _,_,_=>false
def BG (P:Program)(t:Nat):Bool:=
 match P.underlying t with
 | some (.slice _)=>true
 | _=>false
variable {t el sz : Nat}
theorem ou {P:Program}(h:BF P t el sz=true):∃ i z,P.underlying t=some (.slice el)∧P.info? el=some i∧iC P el=some z∧(Nat.ble 1 i.size&&Nat.ble i.bytes 4096&&Nat.beq z.cells.length i.size&&z.cells.all dj&&Nat.beq sz i.size)=true:=by
 unfold BF at h
 split at h<;>try (simp at h;done)
 rename_i g i z h1 h2 h3
 simp only[Bool.and_eq_true] at h
 obtain⟨⟨⟨⟨⟨a,b⟩,c⟩,d⟩,e⟩,f⟩:=h
 have:=jK a
 subst this
 exact⟨i,z,h1,h2,h3,by simp only[b,c,d,e,f,Bool.and_self]⟩
theorem ow {P:Program}(h:BG P t=true):∃ el,P.underlying t=some (.slice el):=by
 unfold BG at h
 split at h
 · exact⟨_,by assumption⟩
 · simp at h
def pt (P:Program)(S:af)(st xt:TypeId)(s x:AV):Option cY:=gl P S .append [st,xt] [s,x]
variable {st xt id len : Nat} {src : AV}
theorem zX {xs ys:List α}(o:BF P st el sz=true)(p:BG P xt=true)(c:∀ x,(enc x).cells.length=sz)(a:∀ x,(enc x).cells.all dj=true)(b:S.get id=some (.arr sz (xs.map enc)))(d:gH S src=some (ys.map enc))(g:len=xs.length)(q:S.nx=nx)(e:(Nat.ble (S.nx+1) 8192&&Nat.ble S.lim S.nx)=true)(r:Nat.ble S.lim id=true)(u:ys≠[])(w:xs.length+ys.length≤1048576):pt P S st xt (.aj id 0 len) src=some (.val (.aj nx 0 (xs++ys).length) ((S.del id).add (.arr sz ((xs++ys).map enc)))):=by
 obtain⟨i,z,A,hi,H,G⟩:=ou o
 obtain⟨I,B⟩:=ow p
 simp only[Bool.and_eq_true] at G e
 obtain⟨⟨⟨⟨h1,h2⟩,h3⟩,h4⟩,h5⟩:=G
 have h5:=jK h5
 subst h5
 subst g
 subst q
 have C:=lI (enc:=enc) c a xs
 have f:=lI (enc:=enc) c a ys
 have h:gH S (.aj id 0 xs.length)=some (xs.map enc):=gT _ (.inr ⟨id,_,rfl,b⟩)
 cases ys with
 | nil=>exact absurd rfl u
 | cons y ys=>
   simp only[List.map_cons] at d f
   have k:Nat.ble ((xs.map enc).length+(enc y::ys.map enc).length) 1048576=true:=tn (by simpa using w)
   have m:Nat.beq i.size i.size=true:=Nat.beq_refl _
   have D:(S.del id).nx=S.nx:=rfl
   have E:(S.del id).lim=S.lim:=rfl
   have F:xR S id 0 xs.length i.size (enc y::ys.map enc)=none:=by
    have:Nat.ble (0+xs.length+(enc y::ys.map enc).length) (xs.map enc).length=false:=by
     cases m:Nat.ble (0+xs.length+(enc y::ys.map enc).length) (xs.map enc).length with
     | false=>rfl
     | true=>exfalso;have:=eL m;simp at this;omega
    simp only[xR,b,this,Bool.and_false]
   simp only[pt,gl,kC,A,B,hi,H,d,f,h1,h2,h3,h4,Bool.and_true,b,h,F,k,C,r,m,eW,D,E,e.1,e.2]
   congr 2
   · simp
   · simp
theorem pd {s:AV}{ys:List α}(g:s=.an∨s=.eG)(h:BF P st el sz=true)(k:BG P xt=true)(d:∀ x,(enc x).cells.length=sz)(a:∀ x,(enc x).cells.all dj=true)(b:gH S src=some (ys.map enc))(m:S.nx=nx)(c:(Nat.ble (S.nx+1) 8192&&Nat.ble S.lim S.nx)=true)(o:ys≠[])(p:ys.length≤1048576):pt P S st xt s src=some (.val (.aj nx 0 ys.length) (S.add (.arr sz (ys.map enc)))):=by
 obtain⟨i,z,q,hi,w,u⟩:=ou h
 obtain⟨A,r⟩:=ow k
 simp only[Bool.and_eq_true] at u c
 obtain⟨⟨⟨⟨h1,h2⟩,h3⟩,h4⟩,h5⟩:=u
 have h5:=jK h5
 subst h5
 subst m
 have e:=lI (enc:=enc) d a ys
 cases ys with
 | nil=>exact absurd rfl o
 | cons y ys=>
   simp only[List.map_cons] at b e
   have f:Nat.ble (enc y::ys.map enc).length 1048576=true:=tn (by simpa using p)
   rcases g with rfl | rfl <;>
   · simp only[pt,gl,kC,q,r,hi,w,b,e,h1,h2,h3,h4,Bool.and_true,f,eW,c.1,c.2]
     congr 2
     simp
variable {es : List AV}
theorem ny {s:AV}{ys:List α}(b:BF P st el sz=true)(c:BG P xt=true)(a:gH S src=some (ys.map enc))(h:ys.isEmpty=true)(k:gH S s=some es)(d:sized sz es=true) :
  pt P S st xt s src=some (.val s S):=by
 obtain⟨i,z,e,hi,m,g⟩:=ou b
 obtain⟨o,f⟩:=ow c
 simp only[Bool.and_eq_true] at g
 obtain⟨⟨⟨⟨h1,h2⟩,h3⟩,h4⟩,h5⟩:=g
 have h5:=jK h5
 subst h5
 have:ys=[]:=List.isEmpty_iff.1 h
 subst this
 simp only[pt,gl,kC,e,f,hi,m,a,List.map_nil,show sized i.size []=true from rfl,h1,h2,h3,h4,Bool.and_true,k,d]
theorem jA {ys:List α}(h:ys.isEmpty=false):ys≠[]:=by rintro rfl;simp at h
def Jk (P:Program)(S:af)(t:TypeId)(a b:AV):Option cY:=j3 S (dG P S t a b)
variable {i : Int}
theorem Hm {xs:List α}{x:α}{k:IntKind}(hx:dA xs i=some x)(a:len=xs.length)(h1:P.underlying t=some (.slice el))(h2:pT P el=some n)(b:S.get id=some (.arr n es)) :
  Jk P S t (.aj id 0 len) (.sc (.int k i))=some (.val (.ptr id (0+i.toNat) 0) S):=by
 obtain⟨m,rfl,c⟩:=wU hx
 have d:m<xs.length:=(List.getElem?_eq_some_iff.1 c).1
 show j3 S (dG P S t (.aj id 0 len) (.sc (.int k (.ofNat m))))=_
 simp only[dG,h1,h2,b,Nat.beq_refl,show Nat.ble (m+1) len=true from tn (by omega),j3]
 rfl
def GP (P:Program)(S:af)(t:TypeId)(p:AV):Option cY:=
 match jN S p with
 | some cs=>j3 S (mI P t cs)
 | none=>none
variable {v : AV} {j : Nat} {cs : List AV}
theorem XF {xs:List α}{x:α}(hx:dA xs i=some x)(b:S.get id=some (.arr n (xs.map enc)))(a:(enc x).cells=cs)(c:Nat.ble j cs.length=true)(d:mI P t (cs.drop j)=some v) :
  GP P S t (.ptr id (0+i.toNat) j)=some (.val v S):=by
 obtain⟨m,rfl,f⟩:=wU hx
 have e:nth (xs.map enc) (0+(m:Int).toNat)=some (enc x):=by rw[iB];simp[f]
 simp only[GP,jN,b,e,a,c,d,j3]
def KO (P:Program)(S:af)(t:TypeId)(p v:AV):Option cY:=Cx (sf P S t p v)
theorem XG {m:Nat}{xs:List α}{x x' : α}(hx:dA xs i=some x)(b:S.get id=some (.arr n (xs.map enc)))(a:(enc x).cells=cs)(c:pT P t=some m)(d:(Nat.beq v.cells.length m&&Nat.ble (j+m) cs.length&&v.cells.all dj&&Nat.ble S.lim id)=true)(f:YG (j5 cs j v.cells)=enc x') :
  KO P S t (.ptr id (0+i.toNat) j) v=some (.skip (S.set id (.arr n ((xs.set i.toNat x').map enc)))):=by
 obtain⟨q,rfl,g⟩:=wU hx
 have e:nth (xs.map enc) (0+(q:Int).toNat)=some (enc x):=by rw[iB];simp[g]
 simp only[KO,sf,b,e,c,a,d,f,Cx]
 rw[List.map_set]
 simp
end
end
end Go.Eng
namespace Go.Eng
noncomputable section
structure bZ (T : FT) (P : Program) : Prop where
 ok : cF T P
 mix : P.follows .mixedOrders = true
structure SX (P : Program) (Q : ic → af → Prop) (s : St) : Prop where
 out : aJ P Q s
mutual
def tI : AV→AV
 | .an=>.lit []
 | .eG=>.lit []
 | .agg cs=>.agg (sA cs)
 | v=>v
def sA : List AV→List AV
 | []=>[]
 | v::l=>tI v::sA l
end
theorem xb (l:List AV)(k:Nat):(sA l)[k]? = l[k]?.map tI:=by
 induction l generalizing k with
 | nil=>simp[sA]
 | cons a l c=>cases k<;>simp[sA,c]
theorem na (l:List AV):(sA l).length=l.length:=by
 induction l with
 | nil=>simp[sA]
 | cons a l c=>simp[sA,c]
theorem VR.tI {g:Gh}{v:AV}{x:Value}(h:VR g v x):VR g (Go.Eng.tI v) x:=by
 induction h with
 | an=>rw[Go.Eng.tI];exact .gG
 | eG=>rw[Go.Eng.tI];exact .gG
 | agg j _ l=>
   rw[Go.Eng.tI]
   refine .agg (by rw[na];exact j) fun k a x e m=>?_
   rw[xb] at e
   rename_i cs xs _
   cases f:cs[k]? with
   | none=>rw[f] at e;simp at e
   | some b=>rw[f] at e;simp at e;subst e;exact l k b x f m
 | sc h=>rw[Go.Eng.tI];exact .sc h;all_goals simp
 | lit a b c d e=>rw[Go.Eng.tI];exact .lit a b c d e;all_goals simp
 | gG=>rw[Go.Eng.tI];exact .gG;all_goals simp
 | eV a b c=>rw[Go.Eng.tI];exact .eV a b c;all_goals simp
 | ptr a=>rw[Go.Eng.tI];exact .ptr a;all_goals simp
 | aj a b c=>rw[Go.Eng.tI];exact .aj a b c;all_goals simp
 | ga a b=>rw[Go.Eng.tI];exact .ga a b;all_goals simp
 | dJ a=>rw[Go.Eng.tI];exact .dJ a;all_goals simp
 | fn a b c d=>rw[Go.Eng.tI];exact .fn a b c d;all_goals simp
 | fq a=>rw[Go.Eng.tI];exact .fq a;all_goals simp
 | bm a b=>rw[Go.Eng.tI];exact .bm a b;all_goals simp
 | pq a=>rw[Go.Eng.tI];exact .pq a;all_goals simp
 | clip a=>rw[Go.Eng.tI];exact .clip a;all_goals simp
 | top=>exact .top
theorem fG.tI {g:Gh}{l:List AV}{xs:Array Value}(h:fG g l xs):fG g (sA l) xs:=by
 refine⟨by rw[na];exact h.1,fun k a x e d=>?_⟩
 rw[xb] at e
 cases c:l[k]? with
 | none=>rw[c] at e;simp at e
 | some b=>rw[c] at e;simp at e;subst e;exact(h.2 k b x c d).tI
def om (s:ByteArray)(i:Int):Option Int:=if 0≤i then(s[i.toNat]?).map fun b=>(b.toNat:Int) else none
def Dz (P:Program)(S:af)(t:TypeId)(a b:AV):Option cY:=j3 S (uO P t a b)
variable {k : IntKind} {i : Int}
theorem kM (h:0≤i):tK (.sc (.int k i))=some i.toNat:=by
 obtain⟨n,rfl⟩:=Int.eq_ofNat_of_zero_le h
 rfl
variable {P : Program} {b : Int}
theorem tx {S:af}{t:Nat}{s:ByteArray}(h:om s i=some b)(d:P.underlying t=some .string):Dz P S t (.sc (.string s)) (.sc (.int k i))=some (.val (.sc (.int .u8 b)) S):=by
 unfold om at h
 split at h<;>try (simp at h;done)
 rename_i h0
 cases c:s[i.toNat]? with
 | none=>rw[c] at h;simp at h
 | some x=>
   rw[c] at h
   simp only[Option.map_some,ar] at h
   subst h
   simp only[Dz,uO,d,kM h0,c,j3]
def Lc (P : Program) : List Field → List AV → List AV → Option (List Bool)
 | [], _, _ => some []
 | f :: fs, xs, ys => if f.name ≠ "_" ∧ Jp P f.type = some false then
    match nth xs f.offset, nth ys f.offset with
    | some (.sc a), some (.sc b) => match N1 P f.type a b, Lc P fs xs ys with
      | some e, some l => some (e :: l)
      | _, _ => none
    | _, _ => none
   else none
variable {xs ys : List AV}
theorem Kh : ∀ {fs:List Field} {l:List Bool},Lc P fs xs ys=some l→G0 P fs xs ys=some (l.all id):=by
 intro fs
 induction fs with
 | nil=>intro l h;simp only[Lc,ar] at h;subst h;rfl
 | cons f fs c=>
   intro l h
   simp only[Lc] at h
   split at h
   · rename_i d
     split at h
     · rename_i a b g j
       split at h<;>simp only[ar,reduceCtorEq] at h
       rename_i e l' h1 h2
       subst h
       simp only[G0,if_pos d,g,j,h1]
       cases e with
       | true=>simp[c h2]
       | false=>simp
     · simp at h
   · simp at h
def Zs (P:Program)(t:TypeId)(xs ys:List AV):Option (List Bool):=
 match P.underlying t with
 | some (.struct fs)=>match P.stoodInHeld t||P.eqGuardType P.depth t with
   | false=>Lc P fs.toList xs ys
   | true=>none
 | _=>none
theorem DQ {t:TypeId}{l:List Bool}(h:Zs P t xs ys=some l):sQ P .eql t (.agg xs) (.agg ys)=some (.sc (.bool (l.all id)))∧sQ P .neq t (.agg xs) (.agg ys)=some (.sc (.bool (!(l.all id)))):=by
 unfold Zs at h
 split at h<;>try (simp at h;done)
 rename_i fs c
 split at h<;>try (simp at h;done)
 rename_i d
 simp only[sQ,c,d,Kh h,ni,and_self]
def EN (P:Program)(S:af)(t:TypeId)(a:AV)(lo hi:Option AV):Option cY:=j3 S (kU P S t a lo hi)
section
variable {P : Program} {α : Type} {enc : α → AV} {S : af} {t el n : Nat} {xs : List α}
theorem Hn (c:∀ x,(enc x).cells.length=n):(xs.map enc).all (fun e=>Nat.beq e.cells.length n)=true:=by
 simp only[List.all_map,List.all_eq_true]
 intro x _
 simp[c x]
variable {k' : IntKind} {a : Int}
theorem aqT (d:P.underlying t=some (.slice el))(e:pT P el=some n)(c:∀ x,(enc x).cells.length=n)(h:0≤a∧a≤b∧b≤xs.length) :
  EN P S t (.lit (xs.map enc)) (some (.sc (.int k a))) (some (.sc (.int k' b)))=some (.val (.lit (((xs.take b.toNat).drop a.toNat).map enc)) S):=by
 simp only[EN,kU,d,e,By,kM h.1,kM (show 0≤b by omega),Hn c,Bool.and_true,
  show Nat.ble a.toNat b.toNat=true from tn (by omega),show Nat.ble b.toNat (xs.map enc).length=true from tn (by simp;omega),j3]
 simp[List.map_take,List.map_drop]
theorem Zt (d:P.underlying t=some (.slice el))(e:pT P el=some n)(c:∀ x,(enc x).cells.length=n)(h:0≤b∧b≤xs.length) :
  EN P S t (.lit (xs.map enc)) none (some (.sc (.int k' b)))=some (.val (.lit ((xs.take b.toNat).map enc)) S):=by
 simp only[EN,kU,d,e,By,kM h.1,Hn c,Bool.and_true,show Nat.ble 0 b.toNat=true from tn (by omega),
  show Nat.ble b.toNat (xs.map enc).length=true from tn (by simp;omega),j3]
 simp[List.map_take]
theorem N5 (d:P.underlying t=some (.slice el))(e:pT P el=some n)(c:∀ x,(enc x).cells.length=n)(h:0≤a∧a≤xs.length) :
  EN P S t (.lit (xs.map enc)) (some (.sc (.int k a))) none=some (.val (.lit ((xs.drop a.toNat).map enc)) S):=by
 simp only[EN,kU,d,e,By,kM h.1,Hn c,Bool.and_true,show Nat.ble a.toNat (xs.map enc).length=true from tn (by simp;omega),
  show Nat.ble (xs.map enc).length (xs.map enc).length=true from tn (Nat.le_refl _),j3]
 congr 3
 rw[List.take_length,List.map_drop]
def abQ (P:Program)(S:af)(t:TypeId)(l c:AV):Option cY:=yl (mZ P S t l c)
def ae7 (P:Program)(t el sz bytes:Nat)(z0:AV):Prop:=∃ i,P.underlying t=some (.slice el)∧P.info? el=some i∧iC P el=some z0∧(Nat.beq z0.cells.length i.size&&Nat.ble 1 i.size&&z0.cells.all dj&&Nat.beq sz i.size&&Nat.beq bytes i.bytes)=true
def Fu (P:Program)(t sz bytes:Nat):Option (Nat×AV):=
 match P.underlying t with
 | some (.slice el)=>match P.info? el,iC P el with
   | some i,some z=>match Nat.beq z.cells.length i.size&&Nat.ble 1 i.size&&z.cells.all dj&&Nat.beq sz i.size&&Nat.beq bytes i.bytes with
     | true=>some (el,z)
     | false=>none
   | _,_=>none
 | _=>none
variable {sz bytes : Nat}
theorem A0 {P:Program}{t el:Nat}{z:AV}(h:Fu P t sz bytes=some (el,z)):ae7 P t el sz bytes z:=by
 unfold Fu at h
 split at h<;>try (simp at h;done)
 rename_i h1
 split at h<;>try (simp at h;done)
 rename_i i z h2 h3
 split at h<;>simp only[ar,iy,reduceCtorEq] at h
 rename_i c
 obtain⟨rfl,rfl⟩:=h
 exact⟨i,h1,h2,h3,c⟩
theorem XH {z0:α}{nx:Nat}(f:Fu P t sz bytes=some (el,enc z0))(d:S.nx=nx)(c:(Nat.ble (S.nx+1) 8192&&Nat.ble S.lim S.nx)=true)(h:0≤a∧a.toNat*(bytes+1)≤2 ^ 40) :
  abQ P S t (.sc (.int k a)) (.sc (.int k a))=some (.val (.aj nx 0 (List.replicate a.toNat z0).length) (S.add (.arr sz ((List.replicate a.toNat z0).map enc)))):=by
 obtain⟨i,g,hi,j,e⟩:=A0 f
 simp only[Bool.and_eq_true] at e c
 obtain⟨⟨⟨⟨h1,h2⟩,h3⟩,h4⟩,h5⟩:=e
 have h4:=jK h4
 have h5:=jK h5
 subst h4
 subst h5
 subst d
 simp only[abQ,mZ,kM h.1,g,hi,j,h1,h2,h3,Bool.and_true,show Nat.ble a.toNat a.toNat=true from tn (Nat.le_refl _),show Nat.ble (a.toNat*(i.bytes+1)) (2 ^ 40)=true from tn h.2,eW,c.1,c.2,yl]
 simp
def Qo (k:IntKind)(x:Int×Int):AV:=.agg [.sc (.int k x.1),.sc (.int k x.2)]
@[simp] theorem X7 (k:IntKind)(x:Int×Int):aq (Qo k x)=true:=by simp[Qo,aq,br]
end
section
variable {T : FT} {P : Program} {Q : ic → af → Prop} {w : AV}
variable {s : St}
theorem zg (E:bZ T P)(n:Nat)(o:Option AV)(v:AV)(h:KL P (ab T P n s)=o)(c:o=some v)(q:SX P Q (aA v none (ab T P n s))):SX P Q s:=
 ⟨Qm E.ok E.mix n o v h c q.out⟩
theorem N6 (E:bZ T P)(n:Nat)(b:Bool)(h:KL P (ab T P n s)=some (.sc (.bool b)))(c:b=true→SX P Q (aA (.sc (.bool true)) none (ab T P n s)))(d:b=false→SX P Q (aA (.sc (.bool false)) none (ab T P n s))):SX P Q s:=
 ⟨abm E.ok E.mix n b h (fun e=>(c e).out) fun e=>(d e).out⟩
theorem IG (E:bZ T P)(n:Nat)(o:Option AV)(b:Bool)(h:KL P (ab T P n s)=o)(c:o=some (.sc (.bool b)))(d:b=true→SX P Q (aA (.sc (.bool true)) none (ab T P n s)))(e:b=false→SX P Q (aA (.sc (.bool false)) none (ab T P n s))):SX P Q s:=N6 E n b (h.trans c) d e
theorem DR (E:bZ T P)(n:Nat)(g:Nat)(args:List AV)(v:AV)(h:KN T P (ab T P n s)=some (g,args))(c:∀ S,dc P g args S fun r d=>r=.ret v∧d=S)(q:SX P Q (aA v none (ab T P n s))):SX P Q s:=⟨Po E.ok E.mix n g args v h c q.out⟩
theorem Pw (E:bZ T P)(n:Nat)(g:Nat)(args c:List AV)(v:AV)(h:KN T P (ab T P n s)=some (g,args))(d:sA args=c)(e:∀ S,dc P g c S fun r f=>r=.ret v∧f=S)(q:SX P Q (aA v none (ab T P n s))):SX P Q s:=DR E n g args v h (fun S g w xs hx hi=>e S g w xs (by rw[←d];exact hx.tI) hi) q
theorem eo (E:bZ T P)(n:Nat)(o:af→Option cY)(r:af→cY)(h:wB P (ab T P n s)=o (eM (ab T P n s)))(c:nk (r (eM (ab T P n s))) (ab T P n s)=true)(d:o (eM (ab T P n s))=some (r (eM (ab T P n s))))(q:SX P Q (fB r (ab T P n s))):SX P Q s:=⟨I2 E.ok E.mix n o r h c d q.out⟩
theorem abn (E:bZ T P)(n:Nat)(b:Bool)(h:wB P (ab T P n s)=some (.val (.sc (.bool b)) (eM (ab T P n s))))(c:nk (.val (.sc (.bool b)) (eM (ab T P n s))) (ab T P n s)=true)(d:b=true→SX P Q (fB (fun S=>.val (.sc (.bool true)) S) (ab T P n s)))(f:b=false→SX P Q (fB (fun S=>.val (.sc (.bool false)) S) (ab T P n s))):SX P Q s:=
 ⟨XE E.ok E.mix n b h c (fun e=>(d e).out) fun e=>(f e).out⟩
theorem Me (E:bZ T P)(n:Nat)(h:xJ (ab T P n s)=some w)(c:aq w=true):SX P (RQ w) s:=⟨Pt E.ok E.mix n h c⟩
theorem nr (E:bZ T P)(n:Nat){v:AV}(h:xJ (ab T P n s)=some v)(c:Fz (NJ (ab T P n s)) v w):SX P (RQ w) s:=⟨Pv E.ok E.mix n h c⟩
theorem Aq (E:bZ T P){a:Nat}(d:uM a Q)(n:Nat)(c:List (List Nat))(ids:List Nat){s' : St}(e:mL (ab T P n s)=true)(h:q9 c ids (ab T P n s)=s')(q:SX P Q s'):SX P Q s:=
 ⟨DN E.ok E.mix d n c ids e h q.out⟩
theorem Ho (E:bZ T P){a:Nat}(g:uM a Q)(n:Nat)(j:List (List Nat))(ids:List Nat)(d:List (Nat×Nat))(N nx:Nat){c:St}{ls e:List (List (Nat×AV))}{l l2:List (Nat×ak)}(m:mL (ab T P n s)=true)(h:q9 j ids (ab T P n s)=jg c e (oL nx l2))(f:(tZ d N nx [] []&&d.all (fun p=>Nat.ble a p.1)&&Nat.ble a N)=true)(o:wK (kj d N nx) c=true)(q:Nat.beq ls.length (tq c)=true)(r:kR l2=true)(u:e=ls.map (hJ (kj d N nx)))(v:l2=sO (kj d N nx) l)(x:SX P Q (jg c ls (oL N l))):SX P Q s:=by
 simp only[Bool.and_eq_true] at f
 exact⟨DN E.ok E.mix g n j ids m h (FK g d N nx f.1.1 f.1.2 (eL f.2) (AG o) (jK q) u (by rw[←v];exact x7 r) x.out)⟩
theorem zY (E:bZ T P){f:Nat}{args:List AV}(c:br args=true)(d:aq w=true)(h:SX P (RQ w) (St.start T f args af.empty))(S:af) :
 dc P f args S fun r e=>r=.ret w∧e=S:=Pu E.ok c d h.out S
end
end
end Go.Eng
namespace Go.Eng
noncomputable section
def vi : ak→Bool
 | .arr _ es=>br es
 | _=>false
def qB (S:af):Nat→af
 | 0=>S
 | k+1=>(qB S k).del k
theorem s7 (S:af):∀(k id:Nat),(qB S k).get id=if id<k then none else S.get id:=by
 intro k
 induction k with
 | zero=>intro id;simp[qB]
 | succ k b=>
   intro id
   simp only[qB]
   by_cases e:id=k
   · subst e;rw[af.fJ,if_pos (by omega)]
   · rw[af.cn (nM _) e,b]
     by_cases h:id<k
     · rw[if_pos h,if_pos (by omega)]
     · rw[if_neg h,if_neg (by omega)]
theorem pD (S:af):∀ k,(qB S k).nx=S.nx∧(qB S k).lim=S.lim:=by
 intro k
 induction k with
 | zero=>exact⟨rfl,rfl⟩
 | succ k b=>exact b
def xK (S:af):List (Nat×ak)→af
 | []=>S
 | (id,o)::r=>(xK S r).set id o
theorem D6 (S:af):∀ l,(xK S l).nx=S.nx∧(xK S l).lim=S.lim:=by
 intro l
 induction l with
 | nil=>exact⟨rfl,rfl⟩
 | cons p l b=>exact b
variable {S : af} {a : Nat}
theorem wa : ∀ {l:List (Nat×ak)},(∀ p,p∈l→p.1≠a)→(xK S l).get a=S.get a:=by
 intro l
 induction l with
 | nil=>intro _;rfl
 | cons p l b=>
   intro h
   obtain⟨id,o⟩:=p
   simp only[xK]
   rw[af.au (nM _) (fun e=>h (id,o) (List.mem_cons_self ..) e.symm)]
   exact b fun p c=>h p (ug _ c)
theorem Nb : ∀ {l:List (Nat×ak)},(l.map (·.1)).Nodup→∀ id o,(id,o)∈l→(xK S l).get id=some o:=by
 intro l
 induction l with
 | nil=>intro _ id o h;simp at h
 | cons p l d=>
   intro b id o h
   obtain⟨k,x⟩:=p
   simp only[List.map_cons,List.nodup_cons] at b
   simp only[xK]
   rcases List.mem_cons.1 h with e | e
   · simp only[iy] at e;obtain⟨rfl,rfl⟩:=e
     exact af.bD (nM _)
   · have c:id≠k:=by rintro rfl;exact b.1 (List.mem_map.2 ⟨_,e,rfl⟩)
     rw[af.au (nM _) c]
     exact d b.2 id o e
variable {o : ak}
theorem sH.pure_mono {g d:Gh}(f:∀ b c,g.ro b=Option.some c→d.ro b=Option.some c){l:Loc}{x:Option Obj}(n:vi o=true)(h:sH g l x o):sH d l x o:=by
 cases o with
 | arr sz es=>
   obtain⟨c,t,h1,h2,h3,h4,h5,h6⟩:=h
   refine⟨c,t,h1,h2,h3,h4,h5,fun i j e a y p q r=>?_⟩
   have m:aq a=true:=kb (eA (by simpa [vi] using n) p) q
   exact VR.mono (g:=g.bare) (g' := d) ⟨f,fun _ _ e=>by simp[Gh.bare] at e⟩ ((h6 i j e a y p q r).bare m)
 | _=>simp[vi] at n
def Ld (ids:List Nat)(nx i:Nat):Nat:=
 match ids[i]? with
 | some a=>a
 | none=>nx+i
def CJ (S:af):List Nat→List ak→Prop
 | a::r,o::l=>(S.get a=some o∧Nat.ble S.lim a=true)∧CJ S r l
 | _,_=>True
theorem YB (S:af):CJ S [] []:=trivial
theorem X8 {r:List Nat}{l:List ak}(h:S.get a=some o)(b:Nat.ble S.lim a=true)(t:CJ S r l):CJ S (a::r) (o::l):=⟨⟨h,b⟩,t⟩
theorem HV : ∀ {ids:List Nat} {l:List ak},CJ S ids l→∀(i a:Nat) (o:ak),ids[i]? = some a→l[i]? = some o→S.get a=some o∧S.lim≤a:=by
 intro ids
 induction ids with
 | nil=>intro l _ i a o e;simp at e
 | cons b r d=>
   intro l h i a o e c
   cases l with
   | nil=>simp at c
   | cons x l=>
     cases i with
     | zero=>simp at e c;subst e;subst c;exact⟨h.1.1,eL h.1.2⟩
     | succ i=>exact d h.2 i a o (by simpa using e) (by simpa using c)
theorem dc.own {P:Program}{f:FuncId}{args:List AV}{S0:af}{d news:List ak}{v' : AV}(h:dc P f args S0 fun r V=>∃ v,r=.ret v∧Fz (qB V d.length) v v' ∧ ∀(i:Nat) (o:ak),news[i]? = some o→V.get i=some o)
   (h0:∀ i:Nat,S0.get i=d[i]?) (h1:S0.nx=d.length) (h2:S0.lim=0) (hl:news.length=d.length) (hp:d.all vi=true) (hp' : news.all vi=true) (hv:aq v' = true)
   {S:af} {ids:List Nat} (hi:ids.length=d.length) (hn:ids.Nodup) (hS:∀(i a:Nat) (o:ak),ids[i]? = some a→d[i]? = some o→S.get a=some o∧S.lim≤a) :
   dc P f (dW (Ld ids S.nx) args) S fun r V=>r=.ret v' ∧ V=xK S (ids.zip news):=by
 intro Y w xs hx A
 obtain⟨σ,hσ⟩:∃ σ,σ=Ld ids S.nx:=⟨_,rfl⟩
 rw[←hσ] at hx
 obtain⟨g,hg⟩:∃ g:Gh,g={ ro:=Y.ro,ph:=fun id=>Y.ph (σ id) }:=⟨_,rfl⟩
 have n:jh σ g Y:=by rw[hg];exact⟨rfl,fun _=>rfl⟩
 have E:∀(i a:Nat),ids[i]? = some a→σ i=a:=by intro i a e;rw[hσ];simp[Ld,e]
 have K:∀(i:Nat) (o:ak),d[i]? = some o→∃ a,ids[i]? = some a:=by
   intro i o e
   have:i<ids.length:=by rw[hi];exact(List.getElem?_eq_some_iff.1 e).1
   exact⟨_,oe this⟩
 have hinj:∀(i j a:Nat),ids[i]? = some a→ids[j]? = some a→i=j:=by
   intro i j a e G
   have R:=(List.getElem?_eq_some_iff.1 e).1
   exact(List.getElem?_inj R hn).1 (e.trans G.symm)
 have hinv0:Inv S0 g w:=by
   refine⟨fun b c e=>A.ro b c (by rw[←n.ro];exact e),fun id o e=>?_,fun id id' o o' l l' e G p p' q=>?_,fun id aQ=>?_⟩
   · rw[h0] at e
     obtain⟨a,B⟩:=K id o e
     obtain⟨H,X⟩:=hS id a o B e
     obtain⟨l,x,y,z⟩:=A.ob a o H
     refine⟨l,by rw[n.ph,E id a B];exact x,by rw[n.ro];exact y,z.pure_mono (by rw[n.ro];exact fun _ _ e=>e) ?_⟩
     exact List.all_eq_true.1 hp o (tl e)
   · rw[h0] at e G
     obtain⟨a,B⟩:=K id o e
     obtain⟨a', ha'⟩:=K id' o' G
     have:=A.inj a a' o o' l l' (hS id a o B e).1 (hS id' a' o' ha' G).1 (by rw[←E id a B,←n.ph];exact p) (by rw[←E id' a' ha', ←n.ph];exact p') q
     subst this
     exact hinj id id' a B ha'
   · rw[h1] at aQ
     rw[n.ph,hσ]
     have:ids[id]? = none:=List.getElem?_eq_none (by rw[hi];exact aQ)
     simp only[Ld,this]
     exact A.fresh _ (by omega)
 refine(h g w xs (hx.gS n) hinv0).mono fun e w' ⟨r,V,g', ⟨v,hr,hf,Z⟩,hres,R,C⟩=>?_
 subst hr
 obtain⟨k,hk⟩:∃ k,k=d.length:=⟨_,rfl⟩
 rw[←hk] at hf
 have hsub:af.sub (qB V k) V:=⟨(pD V k).1.symm,(pD V k).2,fun id o e=>by rw[s7] at e;split at e<;>first | simp at e | exact e⟩
 have hik:Inv (qB V k) g' w' := R.sub hsub
 have hfz:=Gh.ir hik
 have F:∀ b c,(g'.freeze (qB V k) w').ro b=some c→g'.ro b=some c∨(∃ t fz,w'.heap[b]? = some (.cells c t fz))∧∃ id o l,(qB V k).get id=some o∧g'.ph id=some l∧l.cd=b:=by
   intro b c e
   simp only[Gh.freeze] at e
   split at e
   · rename_i c' hc;simp only[ar] at e;subst e;exact .inl hc
   · split at e
     · rename_i c' t fz hh
       split at e<;>simp only[ar,reduceCtorEq] at e
       rename_i hex
       subst e;exact .inr ⟨⟨t,fz,hh⟩,hex⟩
     · simp at e
 obtain⟨gf,hgf⟩:∃ gf,gf=g'.freeze (qB V k) w' := ⟨_,rfl⟩
 rw[←hgf] at hfz F
 obtain⟨gn,u⟩:∃ gn:Gh,gn={ ro:=gf.ro,ph:=Y.ph }:=⟨_,rfl⟩
 have hro1:∀ b c,Y.ro b=some c→gn.ro b=some c:=by
   intro b c e;rw[u];exact hfz.1.ro b c (C.ng.ro b c (by rw[n.ro];exact e))
 have hro2:∀ b c,g'.ro b=some c→gn.ro b=some c:=by intro b c e;rw[u];exact hfz.1.ro b c e
 have other:∀ a o l,S.get a=some o→a∉ids→Y.ph a=some l→∀ id o', S0.get id=some o' → ∀ l', g.ph id=some l' → l'.cd≠l.cd:=by
   intro a o l e B I id o' G l' hl' heq
   rw[h0] at G
   obtain⟨b,hb⟩:=K id o' G
   have:=A.inj b a o' o l' l (hS id b o' hb G).1 e (by rw[←E id b hb,←n.ph];exact hl') I heq
   subst this
   exact B (tl hb)
 have hnd:((ids.zip news).map (·.1)).Nodup:=by
   rw[List.map_fst_zip (by omega)];exact hn
 have U:∀ a o,(xK S (ids.zip news)).get a=some o→(∃ i:Nat,ids[i]? = some a∧news[i]? = some o)∨(a∉ids∧S.get a=some o):=by
   intro a o e
   by_cases B:a∈ids
   · obtain⟨i,D⟩:=List.getElem?_of_mem B
     have J:i<news.length:=by rw[hl,←hi];exact(List.getElem?_eq_some_iff.1 D).1
     have N:news[i]? = some news[i]:=oe J
     have hm:(a,news[i])∈ids.zip news:=tl (i:=i) (by rw[List.getElem?_zip_eq_some];exact⟨D,N⟩)
     rw[Nb hnd _ _ hm] at e
     exact .inl ⟨i,D,by rw[N];exact e⟩
   · rw[wa (fun p hp=>by rintro rfl;exact B (List.of_mem_zip hp).1)] at e
     exact .inr ⟨B,e⟩
 have L:∀(i a:Nat),ids[i]? = some a→∃ o,d[i]? = some o∧S.get a=some o∧S.lim≤a:=by
   intro i a e
   have J:i<d.length:=by rw[←hi];exact(List.getElem?_eq_some_iff.1 e).1
   have ho:d[i]? = some d[i]:=oe J
   exact⟨_,ho,hS i a _ e ho⟩
 have phOf:∀(i a:Nat),ids[i]? = some a→g'.ph i=Y.ph a:=by
   intro i a e
   have J:i<S0.nx:=by rw[h1,←hi];exact(List.getElem?_eq_some_iff.1 e).1
   rw[C.rM i J,n.ph,E i a e]
 have noro:∀ a o l,(xK S (ids.zip news)).get a=some o→Y.ph a=some l→gf.ro l.cd=none:=by
   intro a o l e I
   cases hr:gf.ro l.cd with
   | none=>rfl
   | some c=>
     exfalso
     rcases U a o e with⟨i,D,N⟩ | ⟨B,G⟩
     · obtain⟨l1,x,y,_⟩:=R.ob i o (Z i o N)
       rw[phOf i a D,I] at x;simp only[ar] at x;subst x
       rcases F _ _ hr with q | ⟨_,id,o2,l2,H,X,q3⟩
       · rw[y] at q;simp at q
       · rw[s7] at H
         split at H
         · simp at H
         · rename_i hge
           have:=R.inj id i o2 o l2 l H (Z i o N) X (by rw[phOf i a D];exact I) q3
           subst this
           have J:id<k:=by rw[hk,←hi];exact(List.getElem?_eq_some_iff.1 D).1
           exact hge J
     · obtain⟨l1,x,y,z⟩:=A.ob a o G
       rw[I] at x;simp only[ar] at x;subst x
       have J:=z.lt
       rcases F _ _ hr with q | ⟨_,id,o2,l2,H,X,q3⟩
       · rcases C.wC _ _ q J with q | ⟨m,o0,O,M,f2,W,f4⟩
         · rw[n.ro,y] at q;simp at q
         · exact other a o l G B I m o0 M O W f4
       · rw[s7] at H
         split at H
         · simp at H
         · obtain⟨m,o0,O,M,f2,W,f4⟩:=C.own id o2 l2 H (by rw[h2];omega) X (by rw[q3];exact J)
           exact other a o l G B I m o0 M O W (f4.trans q3)
 refine⟨.ret v', xK S (ids.zip news),gn,⟨rfl,rfl⟩,?_,⟨fun b c e=>?_,fun a o e=>?_,fun a a' o o' l l' e G p p' q=>?_,fun a B=>?_⟩,⟨C.size,C.os,C.tape,C.output,fun b hb hne=>?_,fun a o l e1 e2 e3 _=>?_,⟨hro1,fun _ _ e=>by rw[u];exact e⟩,by rw[(D6 S _).1];exact Nat.le_refl _,(D6 S _).2,fun a B=>?_,fun a _=>by rw[u],fun b c e hb=>?_,fun a _ e=>?_,C.fz⟩⟩
 · cases e with
   | returned x=>exact((Fz.sound hik hfz hf hres).bare hv).mono ⟨fun b c e=>by rw[u];exact e,fun _ _ e=>by simp[Gh.bare] at e⟩
   | panicked c=>exact hres.elim
   | outgrown=>exact hres.elim
 · rw[u] at e
   rcases F b c e with q | ⟨q,_⟩
   · exact R.ro b c q
   · exact q
 · have hgnph:gn.ph a=Y.ph a:=by rw[u]
   rcases U a o e with⟨i,D,N⟩ | ⟨B,G⟩
   · obtain⟨l,x,y,z⟩:=R.ob i o (Z i o N)
     have I:Y.ph a=some l:=by rw[←phOf i a D];exact x
     refine⟨l,by rw[hgnph];exact I,?_,z.pure_mono hro2 (List.all_eq_true.1 hp' o (tl N))⟩
     have:=noro a o l e I
     rw[u];exact this
   · obtain⟨l,x,y,z⟩:=A.ob a o G
     have hk' : w'.heap[l.cd]? = w.heap[l.cd]? := C.gQ l.cd z.lt fun id o' l' M _ W=>other a o l G B x id o' M l' W
     refine⟨l,by rw[hgnph];exact x,?_,by rw[hk'];exact z.mono ⟨hro1,fun _ _ e=>by rw[u];exact e⟩⟩
     have:=noro a o l e x
     rw[u];exact this
 · have back:∀ a o,(xK S (ids.zip news)).get a=some o→∃ o', S.get a=some o' := by
     intro a o e
     rcases U a o e with⟨i,D,_⟩ | ⟨_,G⟩
     · obtain⟨o', _,q,_⟩:=L i a D;exact⟨o', q⟩
     · exact⟨o,G⟩
   obtain⟨o1,H⟩:=back a o e
   obtain⟨o2,X⟩:=back a' o' G
   exact A.inj a a' o1 o2 l l' H X (by rw[u] at p;exact p) (by rw[u] at p';exact p') q
 · rw[(D6 S _).1] at B
   rw[u];exact A.fresh a B
 · refine C.gQ b hb fun id o l M _ W=>?_
   rw[h0] at M
   obtain⟨a,B⟩:=K id o M
   obtain⟨H,X⟩:=hS id a o B M
   exact hne a o l H X (by rw[←E id a B,←n.ph];exact W)
 · rw[u] at e3
   rcases U a o e1 with⟨i,D,_⟩ | ⟨_,G⟩
   · obtain⟨o', _,q,_⟩:=L i a D;exact⟨a,o', l,q,e2,e3,rfl⟩
   · exact⟨a,o,l,G,e2,e3,rfl⟩
 · refine wa fun p hp=>?_
   rintro rfl
   obtain⟨i,hi2⟩:=List.getElem?_of_mem (List.of_mem_zip hp).1
   obtain⟨_,_,_,q⟩:=L i _ hi2
   omega
 · rw[u] at e
   have fin:∀ m o0 O,S0.get m=some o0→g.ph m=some O→O.cd=b→∃ m o0 O,S.get m=some o0∧S.lim≤m∧Y.ph m=some O∧O.cd=b:=by
     intro m o0 O M W f4
     rw[h0] at M
     obtain⟨a,B⟩:=K m o0 M
     obtain⟨H,X⟩:=hS m a o0 B M
     exact⟨a,o0,O,H,X,by rw[←E m a B,←n.ph];exact W,f4⟩
   rcases F b c e with q | ⟨_,id,o,l,H,X,q3⟩
   · rcases C.wC b c q hb with f | ⟨m,o0,O,M,f2,W,f4⟩
     · exact .inl (by rw[←n.ro];exact f)
     · exact .inr (fin m o0 O M W f4)
   · rw[s7] at H
     split at H
     · simp at H
     · obtain⟨m,o0,O,M,f2,W,f4⟩:=C.own id o l H (by rw[h2];omega) X (by rw[q3];exact hb)
       exact .inr (fin m o0 O M W (f4.trans q3))
 · refine(wa fun p hp=>?_).trans e
   rintro rfl
   obtain⟨i,hi2⟩:=List.getElem?_of_mem (List.of_mem_zip hp).1
   obtain⟨o', _,q,_⟩:=L i _ hi2
   rw[e] at q;simp at q
def RO (k:Nat)(v' : AV)(news:List ak):ic→af→Prop:=fun r S=>∃ v,r=.ret v∧Fz (qB S k) v v' ∧ ∀(i:Nat) (o:ak),news[i]? = some o→S.get i=some o
theorem ak.iG {σ:Nat→Nat}(h:vi o=true):o.ax σ=o:=by
 cases o with
 | arr sz es=>simp only[ak.ax,jT (show br es=true from h)]
 | _=>simp[vi] at h
variable {k : Nat} {v' : AV} {news : List ak}
theorem aqU (n:aq v' = true)(p:news.all vi=true)(q:news.length=k):uM k (RO k v' news):=by
 rintro σ f c r S g ⟨v,rfl,h,t⟩ d
 refine⟨v.ax σ,rfl,?_,fun i o e=>?_⟩
 · have l:y9 σ (qB S k) (qB g k):=by
    refine⟨fun id o e=>?_,fun id h=>by rw[(pD S k).2] at h;rw[(pD g k).2];exact d.lim id h,fun j=>by rw[(pD S k).1,(pD g k).1];exact d.hi j,fun id aQ=>by rw[(pD S k).1] at aQ;rw[(pD g k).1];exact d.lo id aQ⟩
    rw[s7] at e ⊢
    split at e
    · simp at e
    · rename_i m
      rw [if_neg (fun b=>m (by
       have:=f (σ id) id (c (σ id) b)
       rw[←this];exact b))]
      exact d.get id o e
   have:=h.ax l
   rw[AV.iG n] at this
   exact this
 · have b:i<k:=by rw[←q];exact(List.getElem?_eq_some_iff.1 e).1
   have:=d.get i o (t i o e)
   rw[c i b,ak.iG (List.all_eq_true.1 p o (tl e))] at this
   exact this
def CK (S:af):Nat→List ak→Prop
 | _,[]=>True
 | i,o::r=>S.get i=some o∧CK S (i+1) r
theorem YC (S:af)(i:Nat):CK S i []:=trivial
theorem X9 {i:Nat}{r:List ak}(h:S.get i=some o)(t:CK S (i+1) r):CK S i (o::r):=⟨h,t⟩
theorem HW : ∀ {l:List ak} {i:Nat},CK S i l→∀(j:Nat) (o:ak),l[j]? = some o→S.get (i+j)=some o:=by
 intro l
 induction l with
 | nil=>intro i _ j o e;simp at e
 | cons x r b=>
   intro i h j o e
   cases j with
   | zero=>simp at e;subst e;exact h.1
   | succ j=>
     have:=b h.2 j o (by simpa using e)
     rw[show i+1+j=i+(j+1) from by omega] at this
     exact this
def lV : Nat→List ak→List (Nat×ak)
 | _,[]=>[]
 | i,o::r=>(i,o)::lV (i+1) r
theorem FL : ∀(l:List ak) (i id:Nat) (o:ak),(id,o)∈lV i l→i≤id∧l[id-i]? = some o:=by
 intro l
 induction l with
 | nil=>intro i id o h;simp[lV] at h
 | cons x r c=>
   intro i id o h
   rcases List.mem_cons.1 h with e | e
   · simp only[iy] at e;obtain⟨rfl,rfl⟩:=e;exact⟨Nat.le_refl _,by simp⟩
   · obtain⟨a,b⟩:=c (i+1) id o e
     refine⟨by omega,?_⟩
     rw[show id-i=(id-(i+1))+1 from by omega];simpa using b
theorem Nc : ∀(l:List ak) (i j:Nat) (o:ak),l[j]? = some o→(i+j,o)∈lV i l:=by
 intro l
 induction l with
 | nil=>intro i j o e;simp at e
 | cons x r b=>
   intro i j o e
   cases j with
   | zero=>simp at e;subst e;exact List.mem_cons_self ..
   | succ j=>
     have:=b (i+1) j o (by simpa using e)
     rw[show i+1+j=i+(j+1) from by omega] at this
     exact ug _ this
theorem HX : ∀(l:List ak) (i:Nat),kR (lV i l)=true:=by
 intro l
 induction l with
 | nil=>intro i;rfl
 | cons x r c=>
   intro i
   have:Fb i (lV (i+1) r)=false:=by
    have key:∀ m:List (Nat×ak),(∀ id o,(id,o)∈m→id≠i)→Fb i m=false:=by
     intro m
     induction m with
     | nil=>intro _;rfl
     | cons p m b=>
       intro h
       obtain⟨k,y⟩:=p
       simp only[Fb]
       have d:k≠i:=h k y (List.mem_cons_self ..)
       rw[show Nat.beq k i=false from by rw[Bool.eq_false_iff];exact fun q=>d (jK q)]
       exact b fun id o e=>h id o (ug _ e)
    exact key _ fun id o e=>by have:=(FL r (i+1) id o e).1;omega
   show(match Fb i (lV (i+1) r) with | true=>false | false=>kR (lV (i+1) r))=true
   rw[this];exact c (i+1)
theorem D7 (l:List ak)(i:Nat):(oL l.length (lV 0 l)).get i=l[i]? := by
 cases h:l[i]? with
 | some o=>
   have:=Nc l 0 i o h
   rw[Nat.zero_add] at this
   exact D5 _ .nil (HX l 0) i o this
 | none=>
   cases b:(oL l.length (lV 0 l)).get i with
   | none=>rfl
   | some o=>
     have:=(FL l 0 i o (wT b)).2
     rw[Nat.sub_zero,h] at this;simp at this
section
variable {T : FT} {P : Program} {Q : ic → af → Prop}
variable {s : St}
theorem aqg (E:bZ T P)(n:Nat){v w:AV}(h:xJ (ab T P n s)=some v)(b:Fz (qB (NJ (ab T P n s)) k) v w)(c:CK (NJ (ab T P n s)) 0 news):SX P (RO k w news) s:=by
 refine⟨cj E.ok E.mix n ?_⟩
 generalize ab T P n s=s at h b c
 unfold xJ at h
 split at h<;>simp only[ar,reduceCtorEq] at h
 subst h
 exact⟨_,rfl,b,fun i o e=>by have:=HW c i o e;rwa [Nat.zero_add] at this⟩
theorem aqh (E:bZ T P){f:Nat}{args c:List AV}{b:List ak}(h:SX P (RO b.length v' news) (St.start T f args (oL b.length (lV 0 b))))(e:news.length=b.length)(g:b.all vi=true)(d:news.all vi=true)(i:aq v' = true)(S:af)(ids:List Nat)(hi:ids.length=b.length)(j:ids.Nodup)(l:CJ S ids b)(m:dW (Ld ids S.nx) args=c) :
  dc P f c S fun r n=>r=.ret v' ∧ n=xK S (ids.zip news):=by
 rw[←m]
 exact dc.own (u0 E.ok h.out) (D7 b) rfl rfl e g d i hi j (HV l)
def Qp : St→Bool
 | .run _ _ _ _=>true
 | _=>false
def N7 (v:AV)(r:af→af)(s:St):St:=aA v (some (r (jx s))) s
theorem acs (E:bZ T P)(n:Nat)(g:Nat)(args:List AV)(v:AV)(r:af→af)(h:KN T P (ab T P n s)=some (g,args))(c:Qp (ab T P n s)=true)(d:dc P g args (jx (ab T P n s)) fun x b=>x=.ret v∧b=r (jx (ab T P n s)))(q:SX P Q (N7 v r (ab T P n s))):SX P Q s:=
 ⟨w8 E.ok E.mix n g args (jx (ab T P n s)) v _ h rfl (by
  generalize ab T P n s=s at c
  cases s with
  | run fn F S k=>exact⟨fn,F,S,k,rfl⟩
  | _=>simp[Qp] at c) d q.out⟩
end
end
end Go.Eng
namespace Go.Eng
noncomputable section
def bump (S:af):af:=match S with | ⟨nx,lim,m⟩=>⟨Nat.succ nx,lim,m⟩
theorem sY (S:af)(id:Nat):(bump S).get id=S.get id:=rfl
def acF (P:Program)(S:af)(t:TypeId)(a h m:AV):Option cY:=j3 S (xP P t a h m)
variable {E : af} {g : Gh} {w : World} {sz : Nat} {es : List AV}
theorem HY {g' : Gh}{w' : World}{x:Value}(h0:Inv E g w)(hi:Inv (E.add (.arr sz es)) g' w')(hx:Ext E g w (E.add (.arr sz es)) g' w')(R:VR g' (.aj E.nx 0 es.length) x)(C:E.lim≤E.nx) :
   ∃ r,VR r (.lit es) x∧Inv (bump E) r w' ∧ Ext E g w (bump E) r w' := by
 have k:(E.add (.arr sz es)).get E.nx=some (.arr sz es):=af.lJ (nM _)
 have f:∀ id,id≠E.nx→(E.add (.arr sz es)).get id=E.get id:=fun id m=>af.dI (nM _) m
 have h:E.get E.nx=none:=by
   cases q:E.get E.nx with
   | none=>rfl
   | some o=>exact absurd (h0.jy q) (Nat.lt_irrefl _)
 obtain⟨l,l1,l2,c,t,Z,p2,H,p4,p5,p6⟩:=hi.ob _ _ k
 have X:w.heap.size≤l.cd:=by
   rcases Nat.lt_or_ge l.cd w.heap.size with L | M
   · exfalso
     obtain⟨A,o0,l0,U,f2,f3,f4⟩:=hx.own _ _ l k C l1 L
     have Y:=h0.jy U
     have:=hi.inj A E.nx o0 _ l0 l (by rw[f A (by omega)];exact U) k (hx.ng.ph _ _ f3) l1 f4
     omega
   · exact M
 obtain⟨r,d⟩:∃ r:Gh,r={ ro:=fun b=>if b=l.cd then some c else g'.ro b,ph:=g'.ph }:=⟨_,rfl⟩
 have z:Gh.le g' r:=by
   refine⟨fun b c' e=>?_,fun _ _ e=>by rw[d];exact e⟩
   rw[d]
   simp only
   split
   · rename_i p;subst p;rw[l2] at e;simp at e
   · exact e
 have N:r.ro l.cd=some c:=by rw[d];simp
 refine⟨r,?_,⟨fun b c' e=>?_,fun id o e=>?_,fun id B o o' l' O e F q V p=>?_,fun id aQ=>?_⟩,⟨hx.size,hx.os,hx.tape,hx.output,hx.gQ,fun id o l' e I G J=>?_,Gh.le_trans hx.ng z,?_,hx.lim,fun id _=>rfl,fun id aQ=>by rw[d];exact hx.rM id aQ,fun b c' e p=>?_,fun id _ e=>e,hx.fz⟩⟩
 · generalize u:es.length=len at R
   cases R with
   | aj K D p=>
     rw[l1] at K;simp only[ar] at K;subst K
     subst u
     refine .lit (sz:=l.sz) N (fun e he=>?_) (by rw[H];omega) D fun i j e a y I G J=>?_
     · rw[H];exact p5 e he
     · exact(p6 i j e a y I G (by rw[←H,←J];congr 1;omega)).mono z
   | ga=>
     have:es=[]:=List.length_eq_zero_iff.1 u
     subst this;exact .gG
 · rw[d] at e
   simp only at e
   split at e
   · rename_i p;simp only[ar] at e;subst e;subst p;exact⟨t,_,Z⟩
   · exact hi.ro b c' e
 · rw[sY] at e
   have m:id≠E.nx:=by rintro rfl;rw[h] at e;simp at e
   obtain⟨l', W,q2,q3⟩:=hi.ob id o (by rw[f id m];exact e)
   refine⟨l', by rw[d];exact W,?_,q3.mono z⟩
   rw[d]
   simp only
   rw[if_neg (fun p=>m (hi.inj id E.nx o _ l' l (by rw[f id m];exact e) k W l1 p))]
   exact q2
 · rw[sY] at e F
   rw[d] at q V
   exact hi.inj id B o o' l' O (by rw[f id (by rintro rfl;rw[h] at e;simp at e)];exact e) (by rw[f B (by rintro rfl;rw[h] at F;simp at F)];exact F) q V p
 · rw[d];exact hi.fresh id aQ
 · rw[sY] at e
   rw[d] at G
   exact hx.own id o l' (by rw[f id (by rintro rfl;rw[h] at e;simp at e)];exact e) I G J
 · exact Nat.le_succ _
 · rw[d] at e
   simp only at e
   split at e
   · rename_i hbb;omega
   · exact hx.wC b c' e p
variable {P : Program} {all : Array Oper} {o : Oper} {get : Nat → Option AV}
theorem nh.copy (e:E.lim≤E.nx)(h:nh P all o get E (.aj E.nx 0 es.length) (E.add (.arr sz es))):nh P all o get E (.lit es) (bump E):=by
 intro g w fr cs i rest m f j k l hi
 obtain⟨w', g', x,a,b,c,d⟩:=h g w fr cs i rest m f j k l hi
 obtain⟨p,q,r,t⟩:=HY hi c d b e
 exact⟨w', p,x,a,q,r,t⟩
variable {v : AV}
theorem nh.none {e:AV}(f:∀ g x,VR g v x→VR g e x)(h:nh P all o get E v E):nh P all o get E e (bump E):=by
 intro g w fr cs i rest m j k l p hi
 obtain⟨w', g', x,a,b,c,d⟩:=h g w fr cs i rest m j k l p hi
 exact⟨w', g', x,a,f _ _ b,⟨c.ro,c.ob,c.inj,fun id aQ=>c.fresh id (Nat.le_of_succ_le aQ)⟩,⟨d.size,d.os,d.tape,d.output,d.gQ,d.own,d.ng,Nat.le_succ _,d.lim,d.sM,d.rM,d.wC,d.dead,d.fz⟩⟩
variable {S S1 : af}
theorem Reach.ae8 {F:ad}{G:ad→af→Prop}{i:Nat}{rest:List Nat}{k:List aC}(r:F.mode=.run)(y:F.todo=.ops all (i::rest)::k)(p:all[i]? = some o)(l:nh P all o F.get S v S1)(h:Reach P (F.after o v all rest k) S1 G):Reach P F S G:=by
 obtain⟨a,b,c,d⟩:=F.iq o v all rest k
 refine h.vD a b c d fun g w fr cs f hi=>?_
 obtain⟨m,q,z⟩:=f.split y
 obtain⟨w', g', x,A,B,C,j⟩:=l g w fr cs i rest m (f.runs r) q p (fun t _ u e=>f.get t u e) hi
 exact⟨fr.finish x,w', g', (f.mono j.ng).after q (z.mono j.ng) p B,C,j,A⟩
structure Wk (v1 v2 : AV) (S1 S2 : af) : Prop where
 vr : ∀ g x, VR g v1 x → VR g v2 x
 nx : S2.nx = S1.nx
 lim : S2.lim = S1.lim
 ob : ∀ id o2, S2.get id = some o2 → ∃ o1, S1.get id = some o1 ∧ ∀ g l x, sH g l x o1 → sH g l x o2
 sM : ∀ id, id < S1.lim → S2.get id = S1.get id
theorem nh.wk {p:af}{v1 t:AV}(f:Wk v1 t S1 p)(h:nh P all o get E v1 S1):nh P all o get E t p:=by
 intro g w fr cs i rest m u A B C hi
 obtain⟨w', g', x,a,b,c,d⟩:=h g w fr cs i rest m u A B C hi
 refine⟨w', g', x,a,f.vr _ _ b,⟨c.ro,fun id o e=>?_,fun id k o o' l l' e D=>?_,fun id aQ=>c.fresh id (by rw[←f.nx];exact aQ)⟩,⟨d.size,d.os,d.tape,d.output,d.gQ,fun id o l e F G H=>?_,d.ng,by rw[f.nx];exact d.nx,f.lim.trans d.lim,fun id aQ=>(f.sM id (by rw[d.lim];exact aQ)).trans (d.sM id aQ),d.rM,d.wC,fun id aQ e=>?_,d.fz⟩⟩
 · obtain⟨o1,j,r⟩:=f.ob id o e
   obtain⟨l,x,y,z⟩:=c.ob id o1 j
   exact⟨l,x,y,r _ _ _ z⟩
 · obtain⟨o1,j,_⟩:=f.ob id o e
   obtain⟨o2,r,_⟩:=f.ob k o' D
   exact c.inj id k o1 o2 l l' j r
 · obtain⟨o1,j,_⟩:=f.ob id o e
   exact d.own id o1 l j F G H
 · cases q:p.get id with
   | none=>rfl
   | some o=>
     obtain⟨o1,j,_⟩:=f.ob id o q
     rw[d.dead id aQ e] at j;simp at j
variable {n : Nat}
theorem FM {l:Loc}{x:Option Obj}(h:sH g l x (.arr sz es)):sH g l x (.arr sz (es.take n++sA (es.drop n))):=by
 obtain⟨c,t,h1,h2,h3,h4,h5,h6⟩:=h
 have d:∀ e:AV,(tI e).cells.length=e.cells.length∧∀(j:Nat) (a:AV),(tI e).cells[j]? = some a→∃ a0,e.cells[j]? = some a0∧a=tI a0:=by
   intro e
   have one:∀ u:AV,u.cells=[u]→(tI u).cells=[tI u]→(tI u).cells.length=u.cells.length∧∀(j:Nat) (a:AV),(tI u).cells[j]? = some a→∃ a0,u.cells[j]? = some a0∧a=tI a0:=by
     intro u C D
     rw[C,D]
     refine⟨rfl,fun j a q=>?_⟩
     cases j with
     | zero=>simp at q;exact⟨u,rfl,q.symm⟩
     | succ j=>simp at q
   cases e with
   | agg cs=>
     rw[tI]
     refine⟨na cs,fun j a q=>?_⟩
     rw[show(AV.agg (sA cs)).cells=sA cs from rfl,xb] at q
     cases m:cs[j]? with
     | none=>rw[m] at q;simp at q
     | some b=>rw[m] at q;simp at q;exact⟨b,m,q.symm⟩
   | an=>exact one _ rfl (by rw[tI];rfl)
   | eG=>exact one _ rfl (by rw[tI];rfl)
   | _=>exact one _ rfl (by rw[tI]<;>first | rfl | simp)
 have A:(es.take n++sA (es.drop n)).length=es.length:=by simp[na];omega
 have k:∀(i:Nat) (e:AV),(es.take n++sA (es.drop n))[i]? = some e→∃ f,es[i]? = some f∧(e=f∨e=tI f):=by
   intro i e q
   by_cases hi:i<(es.take n).length
   · rw[List.getElem?_append_left hi,List.getElem?_take] at q
     split at q
     · exact⟨e,q,.inl rfl⟩
     · simp at q
   · rw[List.getElem?_append_right (by omega),xb,List.getElem?_drop] at q
     have hle:es.length≤n∨(es.take n).length=n:=by
       rcases Nat.lt_or_ge n es.length with a | a
       · exact .inr (by simp;omega)
       · exact .inl a
     rcases hle with hle | hle
     · have:es[n+(i-(es.take n).length)]? = none:=List.getElem?_eq_none (by omega)
       rw[this] at q;simp at q
     · rw[hle,show n+(i-n)=i from by omega] at q
       cases m:es[i]? with
       | none=>rw[m] at q;simp at q
       | some b=>rw[m] at q;simp at q;exact⟨b,rfl,.inr q.symm⟩
 refine⟨c,t,h1,h2,h3,by rw[A];exact h4,fun e F=>?_,fun i j e a y p q r=>?_⟩
 · obtain⟨i,hi⟩:=List.getElem?_of_mem F
   obtain⟨f,z,B⟩:=k i e hi
   rcases B with rfl | rfl
   · exact h5 _ (tl z)
   · rw[(d f).1];exact h5 _ (tl z)
 · obtain⟨f,z,B⟩:=k i e p
   rcases B with rfl | rfl
   · exact h6 i j _ a y z q r
   · obtain⟨a0,G,rfl⟩:=(d f).2 j a q
     exact(h6 i j f a0 y z G r).tI
theorem Wk.add {S:af}{v:AV}{sz n:Nat}{es a:List AV}(b:es.take n++sA (es.drop n)=a)(c:S.lim≤S.nx):Wk v v (S.add (.arr sz es)) (S.add (.arr sz a)):=by
 subst b
 have key:∀(o:ak) id,(S.add o).get id=if id=S.nx then some o else S.get id:=by
   intro o id
   by_cases e:id=S.nx
   · subst e;rw[if_pos rfl];exact af.lJ (nM _)
   · rw[if_neg e];exact af.dI (nM _) e
 refine⟨fun _ _ h=>h,rfl,rfl,fun id o2 e=>?_,fun id aQ=>?_⟩
 · rw[key] at e
   split at e
   · rename_i aQ
     simp only[ar] at e;subst e
     exact⟨_,by rw[key,if_pos aQ],fun g l x h=>FM h⟩
   · rename_i aQ
     exact⟨o2,by rw[key,if_neg aQ];exact e,fun _ _ _ h=>h⟩
 · have aQ:id<S.lim:=aQ
   rw[key,key,if_neg (by omega),if_neg (by omega)]
section
variable {T : FT} {P : Program} {Q : ic → af → Prop}
variable {s : St}
theorem Fv (E:bZ T P)(n:Nat)(o:af→Option cY)(x:AV)(l:af→af)(h:wB P (ab T P n s)=o (eM (ab T P n s)))(H:((db (ab T P n s)).bind (·.dst)).isSome=true)(M:∃ r,o (eM (ab T P n s))=some r)(j:∀ {all:Array Oper} {op:Oper} {get:Nat→Option AV},(∀ v S1,o (eM (ab T P n s))=some (.val v S1)→nh P all op get (eM (ab T P n s)) v S1)→nh P all op get (eM (ab T P n s)) x (l (eM (ab T P n s))))(K:(eM (ab T P n s)).nx≤(l (eM (ab T P n s))).nx)(q:SX P Q (fB (fun S=>.val x (l S)) (ab T P n s))):SX P Q s:=by
 refine⟨cj E.ok E.mix n ?_⟩
 have q:=q.out
 generalize ab T P n s=s at h H M j K q
 have key:=@j
 cases s with
 | run fn F S k=>
   have q:aJ P Q (aA x (some (l S)) (.run fn F S k)):=q
   cases I:db (.run fn F S k) with
   | none=>rw[I] at H;simp at H
   | some op=>
     obtain⟨N,all,i,rest,td,O,z,J⟩:=vX I
     simp only[aA,O,wP,z,gU] at q
     refine aJ.reach (fun G R=>Reach.ae8 N O z (key fun v S1 e=>?_) R) q
     have h:NI P (.run fn F S k)=some (.val v S1):=h.trans e
     simp only[NI] at h
     rw[I] at h
     simp only at h
     split at h<;>try (simp at h;done)
     rename_i hc p
     rw[mE] at h
     exact nh.val J p h
 | fE D k=>
   have q:aJ P Q (Jv (.val x (l (eM (.fE D k)))) (.fE D k)):=q
   cases f:D.os with
   | nil=>simp only[Jv,f] at q;exact q.elim
   | cons op os=>
     have A:eM (.fE D k)=⟨D.S.nx,D.S.lim,seen D.S (al D.eH op.after.toList) D.j9 (hZ D.F (iA op.op)) .nil⟩:=by simp only[eM,f]
     simp only[Jv,f] at q
     have h1:Fa P D op=o (eM (.fE D k)):=by
      have:wB P (.fE D k)=Fa P D op:=by simp only[wB,La,f]
      rw[←this];exact h
     have facts:rP D.F D.ops op=some true∧bT op.op=false∧jS (al D.eH op.after.toList) D.es D.S.nx (nq D.S.lim (hZ D.F (iA op.op)))=true∧∀ r,Fa P D op=some r→gi P D.F.eval (eM (.fE D k)) op.op=some r:=by
      have u:∃ r,Fa P D op=some r:=by obtain⟨r,e⟩:=M;exact⟨r,h1.trans e⟩
      obtain⟨r,y⟩:=u
      have L:=y
      unfold Fa at y
      split at y<;>try (simp at y;done)
      rename_i U a2 a3 a4
      refine⟨U,a2,a4,fun r' e=>?_⟩
      rw[L] at e;simp only[ar] at e;subst e
      rw[mE] at y
      rw[A];exact y
     obtain⟨J,p,V,C⟩:=facts
     have t:nh P D.ops op D.F.get (eM (.fE D k)) x (l (eM (.fE D k))):=key fun v S1 e=>nh.val J p (C _ (h1.trans e))
     rw[A] at t q
     have d:∀ {nx lim id ob},(⟨nx,lim,seen D.S (al D.eH op.after.toList) D.j9 (hZ D.F (iA op.op)) .nil⟩:af).get id=some ob→id∈hZ D.F (iA op.op)∧D.S.get id=some ob∧iU (al D.eH op.after.toList) D.j9 id=true:=by
      intro nx lim id ob e
      have hi:=af.dY e
      rw[af.bY hi] at e
      rcases w7 hi e with q | q
      · rw[PT.get_nil] at q;simp at q
      · exact q
     generalize N:seen D.S (al D.eH op.after.toList) D.j9 (hZ D.F (iA op.op)) .nil=m at *
     simp only[ui,Am] at q
     refine fH.mono (fun Q q=>?_) q
     refine pz.step q f rfl (fun F0 S0 E0 E0' v0 ch B W X=>?_)
     have Y:=X ⟨D.S.nx,D.S.lim,m⟩ x (l ⟨D.S.nx,D.S.lim,m⟩) t rfl fun id ob e=>(d e).2.1
     exact B.news W f t Y rfl (.inl rfl) (fun id ob e=>⟨(d e).2.1,B.clear (d e).2.2⟩) (fun id ob e Z _=>oB.2 ⟨(d e).1,Z⟩) (fun id a _=>(oB.1 a).2) (fun id a _=>pk V id a) (fun id ob e=>by
      obtain⟨a,_,b,c⟩:=vV e;exact⟨a,b,c⟩) (.inl rfl)
 | _=>simp[wB] at h;simp[db] at H
theorem Mf (E:bZ T P)(n:Nat)(o:af→Option cY)(es:List AV)(h:wB P (ab T P n s)=o (eM (ab T P n s)))(c:((db (ab T P n s)).bind (·.dst)).isSome=true)(d:Nat.ble (eM (ab T P n s)).lim (eM (ab T P n s)).nx=true)(a:(∃ sz,o (eM (ab T P n s))=some (.val (.aj (eM (ab T P n s)).nx 0 es.length) ((eM (ab T P n s)).add (.arr sz es))))∨(es=[]∧∃ v,o (eM (ab T P n s))=some (.val v (eM (ab T P n s)))∧∀ g x,VR g v x→VR g (.lit []) x))(q:SX P Q (fB (fun S=>.val (.lit es) (bump S)) (ab T P n s))):SX P Q s:=
 Fv E n o (.lit es) bump h c (by rcases a with⟨sz,a⟩ | ⟨_,v,a,_⟩<;>exact⟨_,a⟩) (fun {all op get} b=>by
  rcases a with⟨sz,a⟩ | ⟨rfl,v,a,e⟩
  · exact nh.copy (eL d) (b _ _ a)
  · exact nh.none e (b _ _ a)) (Nat.le_succ _) q
theorem Zu (E:bZ T P)(n:Nat)(o:af→Option cY)(v:AV)(a:af→af)(h:wB P (ab T P n s)=o (eM (ab T P n s)))(c:((db (ab T P n s)).bind (·.dst)).isSome=true)(d:∃ S1,o (eM (ab T P n s))=some (.val v S1)∧Wk v v S1 (a (eM (ab T P n s)))∧(eM (ab T P n s)).nx≤(a (eM (ab T P n s))).nx)(q:SX P Q (fB (fun S=>.val v (a S)) (ab T P n s))):SX P Q s:=
 let ⟨S1,e,f,i⟩:=d
 Fv E n o v a h c ⟨_,e⟩ (fun {_ _ _} b=>(b _ _ e).wk f) i q
end
section
variable {P : Program} {α : Type} {enc : α → AV}
variable {st xt el : Nat} {src : AV}
theorem XI {s:AV}{xs:List α}(l:s=.an∨s=.eG∨s=.clip (.lit []))(j:BF P st el sz=true)(k:BG P xt=true)(e:∀ x,(enc x).cells.length=sz)(b:∀ x,(enc x).cells.all dj=true)(d:gH S src=some (xs.map enc))(f:(Nat.ble (S.nx+1) 8192&&Nat.ble S.lim S.nx)=true)(m:xs.length≤1048576) :
   (∃ sz,pt P S st xt s src=some (.val (.aj S.nx 0 (xs.map enc).length) (S.add (.arr sz (xs.map enc)))))∨(xs.map enc=[]∧∃ v,pt P S st xt s src=some (.val v S)∧∀ g x,VR g v x→VR g (.lit []) x):=by
 cases xs with
 | nil=>
   refine .inr ⟨rfl,s,?_,fun g x h=>?_⟩
   · rcases l with rfl | rfl | rfl<;>exact ny (enc:=enc) (ys:=[]) j k d rfl rfl rfl
   · rcases l with rfl | rfl | rfl
     · cases h;exact .gG
     · cases h;exact .gG
     · cases h with
       | clip h=>
         rename_i a n c
         generalize A:Value.slice a n c=y at h
         cases h with
         | gG=>cases A;exact .gG
         | lit F G H C hh=>cases A;exact .gG
 | cons y ys=>
   refine .inl ⟨sz,?_⟩
   rcases l with rfl | rfl | rfl
   · have:=pd (P:=P) (S:=S) (enc:=enc) (ys:=y::ys) (s:=.an) (.inl rfl) j k e b d rfl f (by simp) m
     simpa using this
   · have:=pd (P:=P) (S:=S) (enc:=enc) (ys:=y::ys) (s:=.eG) (.inr rfl) j k e b d rfl f (by simp) m
     simpa using this
   · obtain⟨i,z,t,hi,D,B⟩:=ou j
     obtain⟨I,u⟩:=ow k
     simp only[Bool.and_eq_true] at B f
     obtain⟨⟨⟨⟨h1,h2⟩,h3⟩,h4⟩,h5⟩:=B
     have h5:=jK h5
     subst h5
     have p:=lI (enc:=enc) e b (y::ys)
     simp only[List.map_cons] at d p
     have q:Nat.ble (([]:List AV).length+(enc y::ys.map enc).length) 1048576=true:=tn (by simpa using m)
     have r:gH S (.clip (.lit []))=some []:=rfl
     simp only[pt,gl,kC,t,u,hi,D,d,p,h1,h2,h3,h4,Bool.and_true,r,q,show sized i.size []=true from rfl,eW,f.1,f.2,List.nil_append,List.map_cons]
end
section
variable {P : Program} {α : Type} {enc : α → AV}
variable {st xt el : Nat} {src : AV} {raw : List AV} {nx : Nat}
theorem Nd {s:AV}{ys:List α}(f:s=.an∨s=.eG)(h:BF P st el sz=true)(j:BG P xt=true)(k:sized sz raw=true)(d:gH S src=some raw)(b:sA raw=ys.map enc)(l:S.nx=nx)(a:(Nat.ble (S.nx+1) 8192&&Nat.ble S.lim S.nx)=true)(m:ys≠[])(p:ys.length≤1048576) :
   ∃ S1,pt P S st xt s src=some (.val (.aj nx 0 ys.length) S1)∧Wk (.aj nx 0 ys.length) (.aj nx 0 ys.length) S1 (S.add (.arr sz (ys.map enc)))∧S.nx≤(S.add (.arr sz (ys.map enc))).nx:=by
 subst l
 have c:raw.length=ys.length:=by have:=congrArg List.length b;simpa [na] using this
 obtain⟨i,z,q,hi,x,u⟩:=ou h
 obtain⟨y,t⟩:=ow j
 simp only[Bool.and_eq_true] at u a
 obtain⟨⟨⟨⟨h1,h2⟩,h3⟩,h4⟩,h5⟩:=u
 have h5:=jK h5
 subst h5
 refine⟨S.add (.arr i.size raw),?_,Wk.add (n:=0) (by simpa using b) (eL a.2),Nat.le_succ _⟩
 rw[←c]
 cases raw with
 | nil=>exact absurd (List.length_eq_zero_iff.1 c.symm) m
 | cons r raw=>
   have e:Nat.ble (r::raw).length 1048576=true:=tn (by rw[c];exact p)
   rcases f with rfl | rfl <;>
   simp only[pt,gl,kC,q,t,hi,x,d,k,h1,h2,h3,h4,Bool.and_true,e,eW,a.1,a.2]
theorem Nf {id len:Nat}{xs ys:List α}(p:BF P st el sz=true)(q:BG P xt=true)(f:∀ x,(enc x).cells.length=sz)(c:∀ x,(enc x).cells.all dj=true)(t:sized sz raw=true)(a:S.get id=some (.arr sz (xs.map enc)))(h:gH S src=some raw)(d:sA raw=ys.map enc)(j:len=xs.length)(u:S.nx=nx)(b:(Nat.ble (S.nx+1) 8192&&Nat.ble S.lim S.nx)=true)(y:Nat.ble S.lim id=true)(A:ys≠[])(B:xs.length+ys.length≤1048576) :
   ∃ S1,pt P S st xt (.aj id 0 len) src=some (.val (.aj nx 0 (xs++ys).length) S1)∧Wk (.aj nx 0 (xs++ys).length) (.aj nx 0 (xs++ys).length) S1 ((S.del id).add (.arr sz ((xs++ys).map enc)))∧S.nx≤((S.del id).add (.arr sz ((xs++ys).map enc))).nx:=by
 subst u
 have e:raw.length=ys.length:=by have:=congrArg List.length d;simpa [na] using this
 obtain⟨i,z,C,hi,K,J⟩:=ou p
 obtain⟨L,D⟩:=ow q
 simp only[Bool.and_eq_true] at J b
 obtain⟨⟨⟨⟨h1,h2⟩,h3⟩,h4⟩,h5⟩:=J
 have h5:=jK h5
 subst h5
 subst j
 have F:=lI (enc:=enc) f c xs
 refine ⟨(S.del id).add (.arr i.size (xs.map enc++raw)),?_,Wk.add (S:=S.del id) (n:=xs.length) (by
   rw[List.take_append_of_le_length (by simp),List.take_of_length_le (by simp),List.drop_append_of_le_length (by simp),List.drop_of_length_le (by simp),List.nil_append,d,List.map_append]) (eL b.2),Nat.le_succ _⟩
 have k:gH S (.aj id 0 xs.length)=some (xs.map enc):=gT _ (.inr ⟨id,_,rfl,a⟩)
 cases raw with
 | nil=>exact absurd (List.length_eq_zero_iff.1 e.symm) A
 | cons r raw=>
   have l:Nat.ble ((xs.map enc).length+(r::raw).length) 1048576=true:=tn (by rw[e];simpa using B)
   have m:Nat.beq i.size i.size=true:=Nat.beq_refl _
   have G:(S.del id).nx=S.nx:=rfl
   have H:(S.del id).lim=S.lim:=rfl
   have I:xR S id 0 xs.length i.size (r::raw)=none:=by
    have:Nat.ble (0+xs.length+(r::raw).length) (xs.map enc).length=false:=by
     cases m:Nat.ble (0+xs.length+(r::raw).length) (xs.map enc).length with
     | false=>rfl
     | true=>exfalso;have:=eL m;simp at this;omega
    simp only[xR,a,this,Bool.and_false]
   simp only[pt,gl,kC,C,D,hi,K,h,t,h1,h2,h3,h4,Bool.and_true,a,k,I,l,F,y,m,eW,G,H,b.1,b.2]
   congr 3
   simp[e]
end
variable {α : Type}
noncomputable def CL (e:Bool)(t f:Option α):Option α:=if e then(match t,f with
 | some a,some b=>(open Classical in if a=b then some a else none)
 | _,_=>none) else f
theorem Mg {e:Bool}{t f:Option α}{r:α}(h:CL e t f=some r):f=some r∧(e=true→t=some r):=by
 unfold CL at h
 cases e with
 | false=>exact⟨h,fun q=>by simp at q⟩
 | true=>
   simp only[if_true] at h
   split at h
   · rename_i a b
     split at h
     · rename_i c;subst c;exact⟨h,fun _=>h⟩
     · simp at h
   · simp at h
def Zv (P:Program)(s:St):Option (List AV):=
 match s with
 | .run fn F S k=>match db (.run fn F S k) with
   | some o=>match o.op with
     | .binOp .eql t x y _=>match F.eval x,F.eval y,P.underlying t with
       | some (.lit es),some .an,some (.slice _)=>some es
       | _,_,_=>none
     | _=>none
   | none=>none
 | _=>none
theorem Cb {d:Nat}{t e:TypeId}{m:Nat}(a:P.underlying t=some (.slice e)):(Op.equalIn (d+1) t (.slice none m n) (.slice none 0 0)).run P w=.ok true w:=by
 simp[Op.equalIn,ag a]
def abo : St→Bool
 | .run _ _ _ k=>flat k
 | _=>false
variable {s : St}
theorem acu {T:FT}{Q:ic→af→Prop}(E:bZ T P)(n:Nat)(es:List AV)(h:Zv P (ab T P n s)=some es)(l:abo (ab T P n s)=true)(O:es=[]→SX P Q (aA (.sc (.bool true)) none (ab T P n s)))(R:SX P Q (aA (.sc (.bool false)) none (ab T P n s))):SX P Q s:=by
 refine⟨cj E.ok E.mix n ?_⟩
 generalize ab T P n s=s at h O R l
 unfold Zv at h
 split at h<;>try (simp at h;done)
 rename_i fn F S k
 split at h<;>try (simp at h;done)
 rename_i o hn
 split at h<;>try (simp at h;done)
 rename_i t x y yt c
 split at h<;>simp only[ar,reduceCtorEq] at h
 rename_i es' el hx hy U
 subst h
 obtain⟨hm,all,i,rest,td,V,d,hg⟩:=vX hn
 have st:∀ b,aA (.sc (.bool b)) none (.run fn F S k)=.run fn (F.after o (.sc (.bool b)) all rest td) S k:=by
  intro b;simp only[aA,V,wP,d,gU]
 have z:es' = []→aJ P Q (.run fn (F.after o (.sc (.bool true)) all rest td) S k):=fun e=>by rw[←st];exact(O e).out
 have p:aJ P Q (.run fn (F.after o (.sc (.bool false)) all rest td) S k):=by rw[←st];exact R.out
 have r:=fH.all (P:=P) (Qf:=Q) (k:=k) (ι:=Bool) (A:=fun b q=>(b=true→es' = [])→Reach P (F.after o (.sc (.bool b)) all rest td) S (GK P k fn q)) l fun b=>by
  cases b with
  | false=>exact fH.mono (fun q j _=>j) p
  | true=>
    by_cases W:es' = []
    · exact fH.mono (fun q j _=>j) (z W)
    · exact fH.mono (fun q _ hh=>absurd (hh rfl) W) p
 refine fH.mono (fun q j=>?_) r
 intro g w fr B cs f C hi
 obtain⟨m,X,e2⟩:=f.split V
 have Y:=EL.of f x _ hx
 have Z:=EL.of f y _ hy
 obtain ⟨b,hb,u⟩:∃ b:Bool,(b=true→es' = [])∧(execOp fr.eval o).run P w=.ok (.value (.bool b)) w:=by
  obtain⟨D,op,ty,G,after,guard⟩:=o
  simp only at c
  subst c
  generalize H:fr.eval x=xv at Y
  generalize I:fr.eval y=yv at Z
  cases Z with | an=>?_
  have fin:∀(a:Option Addr) (len cap:Nat),(len≠0→a≠none)→xv=.slice a len cap→∃ b:Bool,(b=true→len=0∨a=none)∧(execOp fr.eval ⟨D,.binOp .eql t x y yt,ty,G,after,guard⟩).run P w=.ok (.value (.bool b)) w:=by
    intro a len cap _ e
    have:∃ b:Bool,(b=true→a=none)∧(Op.equalIn (9999+1) t (.slice a len cap) (.slice none 0 0)).run P w=.ok b w:=by
     cases a with
     | none=>exact⟨true,fun _=>rfl,Cb U⟩
     | some a=>exact⟨false,fun h=>by simp at h,sD U⟩
    obtain⟨b,h1,h2⟩:=this
    refine⟨b,fun h=>.inr (h1 h),?_⟩
    have h2:(Op.equal t (.slice a len cap) (.slice none 0 0)).run P w=.ok b w:=h2
    have J:(eqGuard .eql t x y (.slice a len cap) (.slice none 0 0)).run P w=.ok () w:=by unfold eqGuard;split<;>simp
    subst e
    simp[execOp,Sem.run_bind,H,I,J,binOp,h2]
  cases Y with
  | lit hr hs hb hcap hh=>
    obtain⟨b,h1,h2⟩:=fin _ _ _ (fun _=>by simp) rfl
    refine⟨b,fun e=>?_,h2⟩
    rcases h1 e with q | q
    · exact List.length_eq_zero_iff.1 q
    · simp at q
  | gG=>
    obtain⟨b,_,h2⟩:=fin _ 0 _ (fun h=>absurd rfl h) rfl
    exact⟨b,fun _=>rfl,h2⟩
 obtain⟨x1,x2,x3,x4⟩:=F.iq o (.sc (.bool b)) all rest td
 have K:bT o.op=false:=by rw[c];rfl
 have L:=w4 (P:=P) (cs:=cs) (gp (f.runs hm) X d (kL f hg) (.inr K)) u
 obtain⟨F2,S2,g2,w2,M,N,q', r1,r2,r3,r4,r5,r6,r7,r8⟩:=j b hb g w (fr.finish (.bool b)) B cs (f.after X e2 d (.sc rfl)) (C.congr x1 x4) hi
 exact⟨F2,S2,g2,w2,M,N,q', r1,r2,r3.trans x1,r4.trans x2,r5.trans x3,r6,r7,Steps.head L r8⟩
end
end Go.Eng
namespace Go.Eng
noncomputable section
def ub (S:af):List Nat→af
 | []=>S
 | id::r=>(ub S r).del id
theorem pE (S:af):∀(l:List Nat) (id:Nat),(ub S l).get id=if id∈l then none else S.get id:=by
 intro l
 induction l with
 | nil=>intro id;simp[ub]
 | cons a l b=>
   intro id
   simp only[ub]
   by_cases e:id=a
   · subst e;rw[af.fJ,if_pos (List.mem_cons_self ..)]
   · rw[af.cn (nM _) e,b]
     by_cases h:id∈l
     · rw[if_pos h,if_pos (ug _ h)]
     · rw[if_neg h,if_neg (by simp[e,h])]
theorem zZ (S:af):∀ l,(ub S l).nx=S.nx∧(ub S l).lim=S.lim:=by
 intro l
 induction l with
 | nil=>exact⟨rfl,rfl⟩
 | cons a l b=>exact b
inductive ie (S : af) (kp : List Nat) : AV → AV → Prop
 | pure {v : AV} (h : aq v = true) : ie S kp v v
 | an : ie S kp .an (.lit [])
 | eG : ie S kp .eG (.lit [])
 | aj {id len sz : Nat} {es es' : List AV} (hk : id ∉ kp) (hg : S.get id = some (.arr sz es)) (hl : len = es.length) (hs : es'.length = es.length)
  (hc : ∀ (i : Nat) (e e' : AV), es[i]? = some e → es'[i]? = some e' → e'.cells.length = e.cells.length)
  (h : ∀ (i j : Nat) (e e' a a' : AV), es[i]? = some e → es'[i]? = some e' → e.cells[j]? = some a → e'.cells[j]? = some a' → ie S kp a a') : ie S kp (.aj id 0 len) (.lit es')
 | CM {id j o l : Nat} (h : kp[j]? = some id) : ie S kp (.aj id o l) (.aj j o l)
 | pA {id j i c : Nat} (h : kp[j]? = some id) : ie S kp (.ptr id i c) (.ptr j i c)
 | CN {id j : Nat} (h : kp[j]? = some id) : ie S kp (.dJ id) (.dJ j)
 | CO {id j : Nat} (h : kp[j]? = some id) : ie S kp (.pq id) (.pq j)
 | agg {cs cs' : List AV} (hl : cs'.length = cs.length) (h : ∀ (k : Nat) (a a' : AV), cs[k]? = some a → cs'[k]? = some a' → ie S kp a a') : ie S kp (.agg cs) (.agg cs')
 | bm {cs cs' : List AV} (hl : cs'.length = cs.length) (h : ∀ (k : Nat) (a a' : AV), cs[k]? = some a → cs'[k]? = some a' → ie S kp a a') : ie S kp (.bm cs) (.bm cs')
 | fq {t : TypeId} {v v' : AV} (h : ie S kp v v') : ie S kp (.fq t v) (.fq t v')
 | fn {f : Fn} {cs cs' ds ds' : List AV} (hl : cs'.length = cs.length) (h : ∀ (k : Nat) (a a' : AV), cs[k]? = some a → cs'[k]? = some a' → ie S kp a a')
  (hl2 : ds'.length = ds.length) (h2 : ∀ (k : Nat) (a a' : AV), ds[k]? = some a → ds'[k]? = some a' → ie S kp a a') : ie S kp (.fn f cs ds) (.fn f cs' ds')
inductive dK (S : af) (kp : List Nat) : List AV → List AV → Prop
 | nil : dK S kp [] []
 | cons {e e' : AV} {l l' : List AV} (h : ie S kp e e') (t : dK S kp l l') : dK S kp (e :: l) (e' :: l')
variable {S : af} {kp : List Nat} {l l' : List AV}
theorem dK.spec (h:dK S kp l l'):l'.length=l.length∧∀(i:Nat) (e b:AV),l[i]? = some e→l'[i]? = some b→ie S kp e b:=by
 induction h with
 | nil=>exact⟨rfl,fun i e b h=>by simp at h⟩
 | cons h t f=>
   refine⟨by simp[f.1],fun i e b c d=>?_⟩
   cases i with
   | zero=>simp at c d;subst c;subst d;exact h
   | succ i=>exact f.2 i e b (by simpa using c) (by simpa using d)
theorem ie.vQ {e q:AV}(h:ie S kp e q):q.cells.length=e.cells.length∧∀(j:Nat) (a g:AV),e.cells[j]? = some a→q.cells[j]? = some g→ie S kp a g:=by
 have one:∀ {u m:AV},u.cells=[u]→m.cells=[m]→ie S kp u m→m.cells.length=u.cells.length∧∀(j:Nat) (a g:AV),u.cells[j]? = some a→m.cells[j]? = some g→ie S kp a g:=by
  intro u m h1 h2 t
  rw[h1,h2]
  refine⟨rfl,fun j a g n p=>?_⟩
  cases j with
  | zero=>simp at n p;subst n;subst p;exact t
  | succ j=>simp at n
 cases h with
 | pure h=>exact⟨rfl,fun j a g n p=>by rw[n] at p;simp only[ar] at p;subst p;exact .pure (kb h n)⟩
 | an=>exact one rfl rfl .an
 | eG=>exact one rfl rfl .eG
 | aj a b c d e f=>exact one rfl rfl (.aj a b c d e f)
 | CM h=>exact one rfl rfl (.CM h)
 | pA h=>exact one rfl rfl (.pA h)
 | CN h=>exact one rfl rfl (.CN h)
 | CO h=>exact one rfl rfl (.CO h)
 | agg s h=>exact⟨s,h⟩
 | bm s h=>exact one rfl rfl (.bm s h)
 | fq h=>exact one rfl rfl (.fq h)
 | fn a b c d=>exact one rfl rfl (.fn a b c d)
variable {id : Nat}
theorem ie.Qq {j o l l' : Nat}(h:kp[j]? = some id)(b:l=l'):ie S kp (.aj id o l) (.aj j o l'):=by subst b;exact .CM h
variable {len sz : Nat} {es es' : List AV}
theorem ie.Qn (c:id∉kp)(d:S.get id=some (.arr sz es))(f:len=es.length)(h:dK S kp es es'):ie S kp (.aj id 0 len) (.lit es'):=
 .aj c d f h.spec.1 (fun i e b p q=>(h.spec.2 i e b p q).vQ.1) (fun i j e b a g p q r s=>(h.spec.2 i e b p q).vQ.2 j a g r s)
theorem ie.Ap (b:id∉kp)(c:S.get id=some (.arr sz es))(d:len=es.length)(f:br es=true):ie S kp (.aj id 0 len) (.lit es):=
 .aj b c d rfl (fun i e g p q=>by rw[p] at q;simp only[ar] at q;rw[q]) (fun i j e g a h p q r s=>by
  rw[p] at q;simp only[ar] at q;subst q
  rw[r] at s;simp only[ar] at s;subst s
  exact .pure (kb (eA f p) r))
theorem ie.Q5 (h:dK S kp l l'):ie S kp (.agg l) (.agg l'):=.agg h.spec.1 h.spec.2
theorem ie.vF (h:dK S kp l l'):ie S kp (.bm l) (.bm l'):=.bm h.spec.1 h.spec.2
theorem ie.QK {f:Fn}{m b:List AV}(h:dK S kp l l')(k:dK S kp m b):ie S kp (.fn f l m) (.fn f l' b):=.fn h.spec.1 h.spec.2 k.spec.1 k.spec.2
theorem ie.ax {σ:Nat→Nat}(t:∀ a b,σ a=σ b→a=b){S A:af}{kp:List Nat}(B:y9 σ S A){v v' : AV}(h:ie S kp v v'):ie A (kp.map σ) (v.ax σ) v' := by
 have key:∀ {l:List AV} {k:Nat} {a:AV},(dW σ l)[k]? = some a→∃ b,l[k]? = some b∧a=b.ax σ:=by
   intro l k a e
   rw[iE] at e
   cases u:l[k]? with
   | none=>rw[u] at e;simp at e
   | some b=>rw[u] at e;simp at e;exact⟨b,rfl,e.symm⟩
 have m:∀ {j id:Nat},kp[j]? = some id→(kp.map σ)[j]? = some (σ id):=by intro j id e;rw[List.getElem?_map,e];rfl
 induction h with
 | pure h=>rw[AV.iG h];exact .pure h
 | an=>rw[AV.ax];exact .an
 | eG=>rw[AV.ax];exact .eG
 | aj C D n x E h f=>
   rw[AV.ax]
   refine .aj (fun F=>?_) (B.get _ _ D) (by rw[aF];exact n) (by rw[aF];exact x) (fun i e w p q=>?_) (fun i j e w a g p q r s=>?_)
   · obtain⟨b,u,e⟩:=List.mem_map.1 F
     have:=t _ _ e
     subst this;exact C u
   · obtain⟨b,d,rfl⟩:=key p
     rw[AV.fT,aF]
     exact E i b w d q
   · obtain⟨b,d,rfl⟩:=key p
     rw[AV.fT] at r
     obtain⟨c,G,rfl⟩:=key r
     exact f i j b w c g d q G s
 | CM h=>rw[AV.ax];exact .CM (m h)
 | pA h=>rw[AV.ax];exact .pA (m h)
 | CN h=>rw[AV.ax];exact .CN (m h)
 | CO h=>rw[AV.ax];exact .CO (m h)
 | agg n h f=>
   rw[AV.ax]
   refine .agg (by rw[aF];exact n) fun k a g p q=>?_
   obtain⟨b,d,rfl⟩:=key p
   exact f k b g d q
 | bm n h f=>
   rw[AV.ax]
   refine .bm (by rw[aF];exact n) fun k a g p q=>?_
   obtain⟨b,d,rfl⟩:=key p
   exact f k b g d q
 | fq h f=>rw[AV.ax];exact .fq f
 | fn n h y h2 f z=>
   rw[AV.ax]
   refine .fn (by rw[aF];exact n) (fun k a g p q=>?_) (by rw[aF];exact y) (fun k a g p q=>?_)
   · obtain⟨b,d,rfl⟩:=key p
     exact f k b g d q
   · obtain⟨b,d,rfl⟩:=key p
     exact z k b g d q
variable {v v' : AV}
theorem ie.sound {g U F:Gh}{w:World}(hi:Inv S g w)(V:Gh.frozen (ub S kp) g w U)(W:F.ro=U.ro)(z:∀ j id,kp[j]? = some id→F.ph j=g.ph id)(h:ie S kp v v'):∀ {x:Value},VR g v x→VR F v' x:=by
 have K:Gh.le g.bare F:=⟨fun b c e=>by rw[W];exact V.1.ro b c e,fun _ _ e=>by simp[Gh.bare] at e⟩
 induction h with
 | pure h=>intro x m;exact(m.bare h).mono K
 | an=>intro x m;cases m;exact .gG
 | eG=>intro x m;cases m;exact .gG
 | aj L A q D X h y=>
   intro x m
   cases m with
   | aj p s E=>
     rename_i l
     obtain⟨l', I,q2,Y⟩:=hi.ob _ _ A
     rw[p] at I;simp only[ar] at I;subst I
     obtain⟨c,t,Z,p2,J,p4,p5,p6⟩:=Y
     have M:=V.2.2 _ _ l c t (0,0) (by rw[pE,if_neg L];exact A) p Z
     rename_i es es' cap
     subst q
     rw[←D]
     have:VR F (.lit es') (.slice (some ⟨l.cd,l.base+0*l.sz,none⟩) es'.length cap):=by
       refine .lit (sz:=l.sz) (by rw[W];exact M) (fun e he=>?_) (by rw[D,J];omega) (by rw[D];exact s) (fun i j e a x n u e3=>?_)
       · obtain⟨k,z⟩:=List.getElem?_of_mem he
         have f:k<es.length:=by rw[←D];exact(List.getElem?_eq_some_iff.1 z).1
         have d:es[k]? = some es[k]:=oe f
         rw[X k _ e d z,J]
         exact p5 _ (List.getElem_mem f)
       · have f:i<es.length:=by rw[←D];exact(List.getElem?_eq_some_iff.1 n).1
         have d:es[i]? = some es[i]:=oe f
         have N:j<es[i].cells.length:=by rw[←X i _ e d n];exact(List.getElem?_eq_some_iff.1 u).1
         have G:es[i].cells[j]? = some es[i].cells[j]:=oe N
         exact y i j _ e _ a d n G u (p6 i j _ _ x d G (by rw[←J,←e3];congr 1;omega))
     exact this
   | ga=>
     obtain rfl:=List.length_eq_zero_iff.1 (D.trans q.symm)
     exact .gG
 | CM h=>
   intro x m
   cases m with
   | aj p s E=>exact .aj (by rw[z _ _ h];exact p) s E
   | ga p E=>exact .ga (by rw[z _ _ h];exact p) E
 | pA h=>intro x m;cases m with | ptr p=>exact .ptr (by rw[z _ _ h];exact p)
 | CN h=>intro x m;cases m with | dJ p=>exact .dJ (by rw[z _ _ h];exact p)
 | CO h=>intro x m;cases m with | pq p=>exact .pq (by rw[z _ _ h];exact p)
 | agg q h y=>
   intro x m
   cases m with
   | agg B hh=>
     refine .agg (by rw[q];exact B) fun k a x n u=>?_
     rename_i cs C xs
     have f:k<cs.length:=by rw[←q];exact(List.getElem?_eq_some_iff.1 n).1
     have d:cs[k]? = some cs[k]:=oe f
     exact y k _ a d n (hh k _ x d u)
 | bm q h y=>
   intro x m
   cases m with
   | bm B hh=>
     refine .bm (by rw[q];exact B) fun k a x n u=>?_
     rename_i cs C xs
     have f:k<cs.length:=by rw[←q];exact(List.getElem?_eq_some_iff.1 n).1
     have d:cs[k]? = some cs[k]:=oe f
     exact y k _ a d n (hh k _ x d u)
 | fq h y=>intro x m;cases m with | fq hh=>exact .fq (y hh)
 | fn q h H h2 y O=>
   intro x m
   cases m with
   | fn hx hy ha E=>
     refine .fn (by rw[q];exact hx) (by rw[H];exact hy) (fun k a x n u=>?_) (fun k a x n u=>?_)
     · rename_i cs C ds R xs ys
       have f:k<cs.length:=by rw[←q];exact(List.getElem?_eq_some_iff.1 n).1
       have d:cs[k]? = some cs[k]:=oe f
       exact y k _ a d n (ha k _ x d u)
     · rename_i cs C ds R xs ys
       have f:k<ds.length:=by rw[←H];exact(List.getElem?_eq_some_iff.1 n).1
       have d:ds[k]? = some ds[k]:=oe f
       exact O k _ a d n (E k _ x d u)
inductive rN (S : af) (kp : List Nat) : ak → ak → Prop
 | arr {sz : Nat} {es es' : List AV} (hs : es'.length = es.length) (hc : ∀ (i : Nat) (e e' : AV), es[i]? = some e → es'[i]? = some e' → e'.cells.length = e.cells.length)
  (h : ∀ (i j : Nat) (e e' a a' : AV), es[i]? = some e → es'[i]? = some e' → e.cells[j]? = some a → e'.cells[j]? = some a' → ie S kp a a') : rN S kp (.arr sz es) (.arr sz es')
 | mp {kvs kvs' : List (AV × AV)} (hs : kvs'.length = kvs.length) (h : ∀ (i : Nat) (p p' : AV × AV), kvs[i]? = some p → kvs'[i]? = some p' → ie S kp p.1 p'.1 ∧ ie S kp p.2 p'.2) : rN S kp (.mp kvs) (.mp kvs')
 | df {o : Bool} : rN S kp (.df o) (.df o)
 | lp {st : LoopState} {pending : Option Code} {fn : FuncId} {n mask : Nat} {env env' : List (Nat × AV)} {params : List Tmp} {assign body : Code} (h : ∀ t v', lk env' t = some v' → ∃ v, lk env t = some v ∧ ie S kp v v') :
  rN S kp (.lp st pending fn n mask env params assign body) (.lp st pending fn n mask env' params assign body)
theorem rN.Zw (h:dK S kp es es'):rN S kp (.arr sz es) (.arr sz es'):=
 .arr h.spec.1 (fun i e b p q=>(h.spec.2 i e b p q).vQ.1) (fun i j e b a c p q r s=>(h.spec.2 i e b p q).vQ.2 j a c r s)
theorem rN.Zx (b:br es=true):rN S kp (.arr sz es) (.arr sz es):=
 .arr rfl (fun i e c p q=>by rw[p] at q;simp only[ar] at q;rw[q]) (fun i j e c a d p q r s=>by
  rw[p] at q;simp only[ar] at q;subst q
  rw[r] at s;simp only[ar] at s;subst s
  exact .pure (kb (eA b p) r))
def IH (b:List (AV×AV)):Bool:=b.all fun p=>aq p.1&&aq p.2
theorem rN.aqq {b:List (AV×AV)}(d:IH b=true):rN S kp (.mp b) (.mp b):=
 .mp rfl fun i p f e c=>by
  rw[e] at c;simp only[ar] at c;subst c
  have:=List.all_eq_true.1 d p (tl e)
  simp only[Bool.and_eq_true] at this
  exact⟨.pure this.1,.pure this.2⟩
theorem rN.ax {σ:Nat→Nat}(d:∀ a b,σ a=σ b→a=b){S x:af}{kp:List Nat}(n:y9 σ S x){o o' : ak}(h:rN S kp o o'):rN x (kp.map σ) (o.ax σ) o' := by
 have key:∀ {l:List AV} {k:Nat} {a:AV},(dW σ l)[k]? = some a→∃ b,l[k]? = some b∧a=b.ax σ:=by
   intro l k a e
   rw[iE] at e
   cases f:l[k]? with
   | none=>rw[f] at e;simp at e
   | some b=>rw[f] at e;simp at e;exact⟨b,rfl,e.symm⟩
 cases h with
 | arr u z h=>
   refine .arr (by rw[aF];exact u) (fun i e g p q=>?_) (fun i j e g a A p q r s=>?_)
   · obtain⟨b,m,rfl⟩:=key p
     rw[AV.fT,aF]
     exact z i b g m q
   · obtain⟨b,m,rfl⟩:=key p
     rw[AV.fT] at r
     obtain⟨c,B,rfl⟩:=key r
     exact(h i j b g c A m q B s).ax d n
 | mp u h=>
   refine .mp (by simpa using u) fun i p m e g=>?_
   rw[List.getElem?_map] at e
   rename_i w y
   cases f:w[i]? with
   | none=>rw[f] at e;simp at e
   | some b=>
     rw[f] at e;simp at e;subst e
     have:=h i b m f g
     exact⟨this.1.ax d n,this.2.ax d n⟩
 | df=>exact .df
 | lp h=>
   refine .lp fun t v' e=>?_
   obtain⟨v,C,D⟩:=h t v' e
   exact⟨v.ax σ,by rw[zV,C];rfl,D.ax d n⟩
theorem rN.sound {S:af}{kp:List Nat}{g E C:Gh}{w:World}(hi:Inv S g w)(u:Gh.frozen (ub S kp) g w E)(z:C.ro=E.ro)(A:∀ j id,kp[j]? = some id→C.ph j=g.ph id){o o' : ak}(h:rN S kp o o'){l:Loc}{x:Option Obj}(B:sH g l x o):sH C l x o' := by
 cases h with
 | arr n F h=>
   rename_i sz es es'
   obtain⟨c,t,h1,h2,h3,h4,h5,h6⟩:=B
   refine⟨c,t,h1,h2,h3,by rw[n];exact h4,fun e H=>?_,fun i j e a y p q r=>?_⟩
   · obtain⟨i,hi⟩:=List.getElem?_of_mem H
     have f:i<es.length:=by rw[←n];exact(List.getElem?_eq_some_iff.1 hi).1
     have d:es[i]? = some es[i]:=oe f
     rw[F i _ e d hi]
     exact h5 _ (List.getElem_mem f)
   · have f:i<es.length:=by rw[←n];exact(List.getElem?_eq_some_iff.1 p).1
     have d:es[i]? = some es[i]:=oe f
     have D:j<es[i].cells.length:=by rw[←F i _ e d p];exact(List.getElem?_eq_some_iff.1 q).1
     have s:es[i].cells[j]? = some es[i].cells[j]:=oe D
     exact(h i j _ e _ a d p s q).sound hi u z A (h6 i j _ _ y d s r)
 | mp n h=>
   rename_i m G
   obtain⟨es,k,h1,h2,h3,h4⟩:=B
   refine⟨es,k,h1,by rw[n];exact h2,fun i I e p q=>?_,h4⟩
   have f:i<m.length:=by rw[←n];exact(List.getElem?_eq_some_iff.1 p).1
   have d:m[i]? = some m[i]:=oe f
   have a:=h i _ I d p
   have b:=h3 i _ e d q
   exact⟨a.1.sound hi u z A b.1,a.2.sound hi u z A b.2⟩
 | df=>exact B
 | lp h=>
   obtain⟨lo,h1,h2,h3,h4,h5,h6,h7,h8,h9⟩:=B
   refine⟨lo,h1,h2,h3,h4,h5,fun t v' e=>?_,h7,h8,h9⟩
   obtain⟨v,J,K⟩:=h t v' e
   obtain⟨x,a,b⟩:=h6 t v J
   exact⟨x,a,K.sound hi u z A b⟩
def sJ (ids:List Nat)(nx i:Nat):Nat:=
 match ids[i]? with
 | some a=>a
 | none=>nx+(i-ids.length)
def rf (S:af):List (Nat×Option ak)→af
 | []=>S
 | (id,some o)::r=>(rf S r).set id o
 | (id,none)::r=>(rf S r).del id
theorem xd (S:af):∀ l,(rf S l).nx=S.nx∧(rf S l).lim=S.lim:=by
 intro l
 induction l with
 | nil=>exact⟨rfl,rfl⟩
 | cons p l b=>obtain⟨id,o⟩:=p;cases o<;>exact b
variable {a : Nat}
theorem yU : ∀ {l:List (Nat×Option ak)},(∀ p,p∈l→p.1≠a)→(rf S l).get a=S.get a:=by
 intro l
 induction l with
 | nil=>intro _;rfl
 | cons p l d=>
   intro h
   obtain⟨id,o⟩:=p
   have b:a≠id:=fun e=>h (id,o) (List.mem_cons_self ..) e.symm
   cases o with
   | some o=>simp only[rf];rw[af.au (nM _) b];exact d fun p c=>h p (ug _ c)
   | none=>simp only[rf];rw[af.cn (nM _) b];exact d fun p c=>h p (ug _ c)
theorem C8 : ∀ {l:List (Nat×Option ak)},(l.map (·.1)).Nodup→∀ id o,(id,o)∈l→(rf S l).get id=o:=by
 intro l
 induction l with
 | nil=>intro _ id o h;simp at h
 | cons p l d=>
   intro c id o h
   obtain⟨k,x⟩:=p
   simp only[List.map_cons,List.nodup_cons] at c
   rcases List.mem_cons.1 h with e | e
   · simp only[iy] at e;obtain⟨rfl,rfl⟩:=e
     cases o with
     | some o=>exact af.bD (nM _)
     | none=>exact af.fJ ..
   · have b:id≠k:=by rintro rfl;exact c.1 (List.mem_map.2 ⟨_,e,rfl⟩)
     cases x with
     | some x=>simp only[rf];rw[af.au (nM _) b];exact d c.2 id o e
     | none=>simp only[rf];rw[af.cn (nM _) b];exact d c.2 id o e
def vG (S:af):List ak→af
 | []=>S
 | o::r=>vG (S.add o) r
theorem Aa : ∀(l:List ak) (S:af),(vG S l).nx=S.nx+l.length∧(vG S l).lim=S.lim:=by
 intro l
 induction l with
 | nil=>intro S;exact⟨rfl,rfl⟩
 | cons o l c=>
   intro S
   obtain⟨a,b⟩:=c (S.add o)
   refine⟨?_,b⟩
   simp only[vG]
   rw[a]
   show S.nx+1+l.length=S.nx+(l.length+1)
   omega
theorem xe : ∀(l:List ak) (S:af) (a:Nat),(vG S l).get a=if S.nx≤a∧a-S.nx<l.length then l[a-S.nx]? else S.get a:=by
 intro l
 induction l with
 | nil=>intro S a;simp[vG]
 | cons o l c=>
   intro S a
   simp only[vG]
   rw[c]
   have b:(S.add o).nx=S.nx+1:=rfl
   rw[b]
   by_cases h1:S.nx+1≤a∧a-(S.nx+1)<l.length
   · rw[if_pos h1,if_pos ⟨by omega,by simp;omega⟩]
     rw[show a-S.nx=(a-(S.nx+1))+1 from by omega]
     simp
   · rw[if_neg h1]
     by_cases h2:a=S.nx
     · subst h2
       rw[af.lJ (nM _),if_pos ⟨Nat.le_refl _,by simp⟩]
       simp
     · rw[af.dI (nM _) h2]
       rw[if_neg]
       rintro⟨h3,h4⟩
       simp only[List.length_cons] at h4
       exact h1 ⟨by omega,by omega⟩
def RG (k:Nat)(v' : AV)(j2:List (Option ak))(add:List ak):ic→af→Prop:=fun r S=>∃ v kp,r=.ret v∧kp.Nodup∧kp.length=k+add.length∧(∀ i,i<k→kp[i]? = some i)∧ie S kp v v' ∧
 (∀(i:Nat) (o' : ak),j2[i]? = some (some o')→∃ o,S.get i=some o∧rN S kp o o')∧∀(i:Nat) (o' : ak),add[i]? = some o' → ∃ id o,kp[k+i]? = some id∧S.get id=some o∧rN S kp o o'
variable {k : Nat} {j2 : List (Option ak)} {add : List ak}
theorem abp (q:j2.length=k):uM k (RG k v' j2 add):=by
 rintro σ c d r S x ⟨v,kp,rfl,p,g,j,s,t,u⟩ f
 refine⟨v.ax σ,kp.map σ,rfl,?_,by simpa using g,fun i hi=>?_,s.ax c f,fun i o' e=>?_,fun i o' e=>?_⟩
 · exact p.map σ fun a b h e=>h (c _ _ e)
 · rw[List.getElem?_map,j i hi,Option.map_some,d i hi]
 · obtain⟨o,m,n⟩:=t i o' e
   have hi:i<k:=by rw[←q];exact(List.getElem?_eq_some_iff.1 e).1
   exact⟨o.ax σ,by have:=f.get i o m;rwa [d i hi] at this,n.ax c f⟩
 · obtain⟨id,o,w,m,n⟩:=u i o' e
   exact⟨σ id,o.ax σ,by rw[List.getElem?_map,w];rfl,f.get id o m,n.ax c f⟩
variable {args : List AV} {olds : List ak}
theorem dc.gen {P:Program}{f:FuncId}{S0:af}{J:List (Option ak)}(h:dc P f args S0 (RG k v' j2 add))(hko:k≤olds.length)(hpad:∀ o,o∈J→o=none)(hpl:k+J.length=olds.length)(h0:∀ i:Nat,S0.get i=olds[i]?)(h1:S0.nx=olds.length)(h2:S0.lim=0)(hl:j2.length=k){ids:List Nat}(hlim:S.lim≤S.nx)(hi:ids.length=olds.length)(hn:ids.Nodup)(hS:∀(i a:Nat) (o:ak),ids[i]? = some a→olds[i]? = some o→S.get a=some (o.ax (sJ ids S.nx))∧S.lim≤a) :
   dc P f (dW (sJ ids S.nx) args) S fun r X=>r=.ret (v'.ax (sJ (ids.take k) S.nx))∧X=vG (rf S (ids.zip (j2.map (Option.map (ak.ax (sJ (ids.take k) S.nx)))++J))) (add.map (ak.ax (sJ (ids.take k) S.nx))):=by
 intro g2 w xs hx n
 obtain⟨σ,hσ⟩:∃ σ,σ=sJ ids S.nx:=⟨_,rfl⟩
 obtain⟨τ,hτ⟩:∃ τ,τ=sJ (ids.take k) S.nx:=⟨_,rfl⟩
 rw[←hσ] at hx hS
 rw[←hτ]
 have htk:(ids.take k).length=k:=by simp;omega
 obtain⟨g,hg⟩:∃ g:Gh,g={ ro:=g2.ro,ph:=fun id=>g2.ph (σ id) }:=⟨_,rfl⟩
 have C:jh σ g g2:=by rw[hg];exact⟨rfl,fun _=>rfl⟩
 have G:∀(i a:Nat),ids[i]? = some a→σ i=a:=by intro i a e;rw[hσ];simp[sJ,e]
 have hhigh0:∀ i:Nat,olds.length≤i→S.nx≤σ i:=by
   intro i e
   have:ids[i]? = none:=List.getElem?_eq_none (by rw[hi];exact e)
   rw[hσ];simp only[sJ,this];omega
 have tlow:∀(i a:Nat),i<k→ids[i]? = some a→τ i=a:=by
   intro i a V e
   have:(ids.take k)[i]? = some a:=by rw[List.getElem?_take,if_pos V];exact e
   rw[hτ];simp[sJ,this]
 have hhigh:∀ i:Nat,k≤i→τ i=S.nx+(i-k):=by
   intro i e
   have:(ids.take k)[i]? = none:=List.getElem?_eq_none (by rw[htk];exact e)
   rw[hτ];simp only[sJ,this,htk]
 have M:∀(i:Nat) (o:ak),olds[i]? = some o→∃ a,ids[i]? = some a:=by
   intro i o e
   have:i<ids.length:=by rw[hi];exact(List.getElem?_eq_some_iff.1 e).1
   exact⟨_,oe this⟩
 have hinj:∀(i j a:Nat),ids[i]? = some a→ids[j]? = some a→i=j:=by
   intro i j a e E
   have K:=(List.getElem?_eq_some_iff.1 e).1
   exact(List.getElem?_inj K hn).1 (e.trans E.symm)
 have W:∀(i a:Nat),ids[i]? = some a→∃ o,olds[i]? = some o∧S.get a=some (o.ax σ)∧S.lim≤a:=by
   intro i a e
   have m:i<olds.length:=by rw[←hi];exact(List.getElem?_eq_some_iff.1 e).1
   have ho:olds[i]? = some olds[i]:=oe m
   exact⟨_,ho,hS i a _ e ho⟩
 have idlt:∀(i a:Nat),ids[i]? = some a→a<S.nx:=by
   intro i a e
   obtain⟨o,_,q,_⟩:=W i a e
   exact n.jy q
 have hinv0:Inv S0 g w:=by
   refine⟨fun b c e=>n.ro b c (by rw[←C.ro];exact e),fun id o e=>?_,fun id O o o' l l' e E p p' q=>?_,fun id aQ=>?_⟩
   · rw[h0] at e
     obtain⟨a,s⟩:=M id o e
     obtain⟨A,F⟩:=hS id a o s e
     obtain⟨l,x,y,z⟩:=n.ob a _ A
     exact⟨l,by rw[C.ph,G id a s];exact x,by rw[C.ro];exact y,z.gS C⟩
   · rw[h0] at e E
     obtain⟨a,s⟩:=M id o e
     obtain⟨a', ha'⟩:=M O o' E
     have:=n.inj a a' _ _ l l' (hS id a o s e).1 (hS O a' o' ha' E).1 (by rw[←G id a s,←C.ph];exact p) (by rw[←G O a' ha', ←C.ph];exact p') q
     subst this
     exact hinj id O a s ha'
   · rw[h1] at aQ
     rw[C.ph]
     exact n.fresh _ (hhigh0 id aQ)
 refine(h g w xs (hx.gS C) hinv0).mono fun e w' ⟨r,X,g', ⟨v,kp,hr,hnd,hlen,hkl,hf,hupd,hadd⟩,hres,K,D⟩=>?_
 subst hr
 have hsub:af.sub (ub X kp) X:=⟨(zZ X kp).1.symm,(zZ X kp).2,fun id o e=>by rw[pE] at e;split at e<;>first | simp at e | exact e⟩
 have V:Inv (ub X kp) g' w' := K.sub hsub
 have hfz:=Gh.ir V
 have H:∀ b c,(g'.freeze (ub X kp) w').ro b=some c→g'.ro b=some c∨(∃ t fz,w'.heap[b]? = some (.cells c t fz))∧∃ id o l,(ub X kp).get id=some o∧g'.ph id=some l∧l.cd=b:=by
   intro b c e
   simp only[Gh.freeze] at e
   split at e
   · rename_i c' hc;simp only[ar] at e;subst e;exact .inl hc
   · split at e
     · rename_i c' t fz hh
       split at e<;>simp only[ar,reduceCtorEq] at e
       rename_i hex
       subst e;exact .inr ⟨⟨t,fz,hh⟩,hex⟩
     · simp at e
 obtain⟨gf,hgf⟩:∃ gf,gf=g'.freeze (ub X kp) w' := ⟨_,rfl⟩
 rw[←hgf] at hfz H
 obtain⟨gk,hgk⟩:∃ gk:Gh,gk={ ro:=gf.ro,ph:=fun j=>match kp[j]? with | some id=>g'.ph id | none=>none }:=⟨_,rfl⟩
 obtain⟨gn,L⟩:∃ gn:Gh,gn={ ro:=gf.ro,ph:=fun a=>if a<S.nx then g2.ph a else match kp[k+(a-S.nx)]? with | some id=>g'.ph id | none=>none }:=⟨_,rfl⟩
 have hkro:gk.ro=gf.ro:=by rw[hgk]
 have Y:∀ j id,kp[j]? = some id→gk.ph j=g'.ph id:=by intro j id e;rw[hgk];simp only[e]
 have phOf:∀(i a:Nat),ids[i]? = some a→g'.ph i=g2.ph a:=by
   intro i a e
   have m:i<S0.nx:=by rw[h1,←hi];exact(List.getElem?_eq_some_iff.1 e).1
   rw[D.rM i m,C.ph,G i a e]
 have hren:jh τ gk gn:=by
   refine⟨by rw[hgk,L],fun j=>?_⟩
   by_cases hj:j<k
   · have hja:ids[j]? = some ids[j]:=oe (by rw[hi];omega)
     rw[Y j j (hkl j hj),tlow j _ hj hja,phOf j _ hja,L]
     simp only[idlt j _ hja,if_true]
   · rw[hhigh j (by omega),L,hgk]
     simp only[show ¬ (S.nx+(j-k)<S.nx) from by omega,if_false,show k+(S.nx+(j-k)-S.nx)=j from by omega]
 have B:∀ a,a<S.nx→gn.ph a=g2.ph a:=by intro a e;rw[L];simp only[e,if_true]
 have hro1:∀ b c,g2.ro b=some c→gn.ro b=some c:=by
   intro b c e;rw[L];exact hfz.1.ro b c (D.ng.ro b c (by rw[C.ro];exact e))
 have hgle:Gh.le g2 gn:=by
   refine⟨hro1,fun a l e=>?_⟩
   rcases Nat.lt_or_ge a S.nx with q | q
   · rw[B a q];exact e
   · rw[n.fresh a q] at e;simp at e
 have other:∀ a o l,S.get a=some o→a∉ids→g2.ph a=some l→∀ id o', S0.get id=some o' → ∀ l', g.ph id=some l' → l'.cd≠l.cd:=by
   intro a o l e s hl2 id o' E l' hl' heq
   rw[h0] at E
   obtain⟨b,U⟩:=M id o' E
   have:=n.inj b a _ o l' l (hS id b o' U E).1 e (by rw[←G id b U,←C.ph];exact hl') hl2 heq
   subst this
   exact s (tl U)
 obtain⟨S2,hS2⟩:∃ S2,S2=vG (rf S (ids.zip (j2.map (Option.map (ak.ax τ))++J))) (add.map (ak.ax τ)):=⟨_,rfl⟩
 rw[←hS2]
 have hnx2:S2.nx=S.nx+add.length:=by rw[hS2,(Aa _ _).1,(xd _ _).1];simp
 have hlim2:S2.lim=S.lim:=by rw[hS2,(Aa _ _).2,(xd _ _).2]
 have hndz:((ids.zip (j2.map (Option.map (ak.ax τ))++J)).map (·.1)).Nodup:=by
   rw[List.map_fst_zip (by simp;omega)];exact hn
 have getLow:∀ a,a<S.nx→a∉ids→S2.get a=S.get a:=by
   intro a s hna
   rw[hS2,xe,if_neg (by rw[(xd _ _).1];omega)]
   exact yU fun p hp=>by rintro rfl;exact hna (List.of_mem_zip hp).1
 have Z:∀ a o,S2.get a=some o→(∃(j id:Nat) (o0 o' : ak),τ j=a∧kp[j]? = some id∧X.get id=some o0∧rN X kp o0 o' ∧ o=o'.ax τ)∨(a∉ids∧a<S.nx∧S.get a=some o):=by
   intro a o e
   rw[hS2,xe,(xd _ _).1] at e
   split at e
   · rename_i hc
     rw[List.getElem?_map] at e
     cases U:add[a-S.nx]? with
     | none=>rw[U] at e;simp at e
     | some o' =>
       rw[U] at e;simp at e
       obtain⟨id,o0,q0,A,F⟩:=hadd _ o' U
       exact .inl ⟨k+(a-S.nx),id,o0,o', by rw[hhigh _ (by omega)];omega,q0,A,F,e.symm⟩
   · by_cases s:a∈ids
     · obtain⟨i,hia⟩:=List.getElem?_of_mem s
       by_cases V:i<k
       · have m:i<j2.length:=by rw[hl];exact V
         have hno:j2[i]? = some j2[i]:=oe m
         have hm:(a,Option.map (ak.ax τ) j2[i])∈ids.zip (j2.map (Option.map (ak.ax τ))++J):=tl (i:=i) (by
           rw[List.getElem?_zip_eq_some]
           exact⟨hia,by rw[List.getElem?_append_left (by simpa using m),List.getElem?_map,hno];rfl⟩)
         rw[C8 hndz _ _ hm] at e
         cases hu:j2[i] with
         | none=>rw[hu] at e;simp at e
         | some o' =>
           rw[hu] at e hno;simp at e
           obtain⟨o0,A,F⟩:=hupd i o' hno
           exact .inl ⟨i,i,o0,o', tlow i a V hia,hkl i V,A,F,e.symm⟩
       · have hil:i<ids.length:=(List.getElem?_eq_some_iff.1 hia).1
         have m:i-j2.length<J.length:=by omega
         have hno:J[i-j2.length]? = some J[i-j2.length]:=oe m
         have hpn:=hpad _ (List.getElem_mem m)
         have hm:(a,(none:Option ak))∈ids.zip (j2.map (Option.map (ak.ax τ))++J):=tl (i:=i) (by
           rw[List.getElem?_zip_eq_some]
           exact⟨hia,by rw[List.getElem?_append_right (by simp;omega)];simp only[List.length_map];rw[hno,hpn]⟩)
         rw[C8 hndz _ _ hm] at e
         simp at e
     · rw[yU (fun p hp=>by rintro rfl;exact s (List.of_mem_zip hp).1)] at e
       exact .inr ⟨s,n.jy e,e⟩
 have phK:∀(j id:Nat),kp[j]? = some id→gn.ph (τ j)=g'.ph id:=by intro j id e;rw[←hren.ph,Y j id e]
 have noroK:∀(j id:Nat) (o0:ak) (l:Loc),kp[j]? = some id→X.get id=some o0→g'.ph id=some l→gf.ro l.cd=none:=by
   intro j id o0 l e e1 e2
   cases hr:gf.ro l.cd with
   | none=>rfl
   | some c=>
     exfalso
     obtain⟨l1,x,y,_⟩:=K.ob id o0 e1
     rw[e2] at x;simp only[ar] at x;subst x
     rcases H _ _ hr with q | ⟨_,id2,o2,l2,A,F,q3⟩
     · rw[y] at q;simp at q
     · rw[pE] at A
       split at A
       · simp at A
       · rename_i hge
         have:=K.inj id2 id o2 o0 l2 l A e1 F e2 q3
         subst this
         exact hge (tl e)
 have noroB:∀ a o l,a∉ids→S.get a=some o→g2.ph a=some l→gf.ro l.cd=none:=by
   intro a o l s E hl2
   cases hr:gf.ro l.cd with
   | none=>rfl
   | some c=>
     exfalso
     obtain⟨l1,x,y,z⟩:=n.ob a o E
     rw[hl2] at x;simp only[ar] at x;subst x
     have m:=z.lt
     rcases H _ _ hr with q | ⟨_,id,o2,l2,A,F,q3⟩
     · rcases D.wC _ _ q m with q | ⟨d,o0,N,I,f2,R,f4⟩
       · rw[C.ro,y] at q;simp at q
       · exact other a o l E s hl2 d o0 I N R f4
     · rw[pE] at A
       split at A
       · simp at A
       · obtain⟨d,o0,N,I,f2,R,f4⟩:=D.own id o2 l2 A (by rw[h2];omega) F (by rw[q3];exact m)
         exact other a o l E s hl2 d o0 I N R (f4.trans q3)
 have fin:∀ b d o0 N,S0.get d=some o0→g.ph d=some N→N.cd=b→∃ d o0 N,S.get d=some o0∧S.lim≤d∧g2.ph d=some N∧N.cd=b:=by
   intro b d o0 N I R f4
   rw[h0] at I
   obtain⟨a,s⟩:=M d o0 I
   obtain⟨A,F⟩:=hS d a o0 s I
   exact⟨a,_,N,A,F,by rw[←G d a s,←C.ph];exact R,f4⟩
 refine⟨.ret (v'.ax τ),S2,gn,⟨rfl,rfl⟩,?_,⟨fun b c e=>?_,fun a o e=>?_,fun a a' o o' l l' e E p p' q=>?_,fun a s=>?_⟩,⟨D.size,D.os,D.tape,D.output,fun b U hne=>?_,fun a o l e1 e2 e3 e4=>?_,hgle,by rw[hnx2];omega,hlim2,fun a s=>?_,fun a s=>B a s,fun b c e U=>?_,fun a s e=>?_,D.fz⟩⟩
 · cases e with
   | returned x=>exact(ie.sound K hfz hkro Y hf hres).ax hren
   | panicked c=>exact hres.elim
   | outgrown=>exact hres.elim
 · rw[L] at e
   rcases H b c e with q | ⟨q,_⟩
   · exact K.ro b c q
   · exact q
 · rcases Z a o e with⟨j,id,o0,o', rfl,A,F,q3,rfl⟩ | ⟨s,m,E⟩
   · obtain⟨l,x,y,z⟩:=K.ob id o0 F
     refine⟨l,by rw[phK j id A];exact x,?_,(q3.sound K hfz hkro Y z).ax hren⟩
     have:=noroK j id o0 l A F x
     rw[L];exact this
   · obtain⟨l,x,y,z⟩:=n.ob a o E
     have hk' : w'.heap[l.cd]? = w.heap[l.cd]? := D.gQ l.cd z.lt fun id o' l' I _ R=>other a o l E s x id o' I l' R
     refine⟨l,by rw[B a m];exact x,?_,by rw[hk'];exact z.mono hgle⟩
     have:=noroB a o l s E x
     rw[L];exact this
 · have mix:∀(j id:Nat) (o0:ak) (a:Nat) (o' : ak) (l l' : Loc),kp[j]? = some id→X.get id=some o0→g'.ph id=some l→a∉ids→S.get a=some o' → g2.ph a=some l' → l.cd=l'.cd→False:=by
     intro j id o0 a o' l l' A F q3 s E hl' U
     obtain⟨l1,x,y,z⟩:=n.ob a o' E
     rw[hl'] at x;simp only[ar] at x;subst x
     have m:=z.lt
     obtain⟨d,o1,N,I,f2,R,f4⟩:=D.own id o0 l F (by rw[h2];omega) q3 (by rw[U];exact m)
     exact other a o' l' E s hl' d o1 I N R (f4.trans U)
   rcases Z a o e with⟨j,id,o0,u,rfl,A,F,q3,rfl⟩ | ⟨s,m,e1⟩<;>rcases Z a' o' E with⟨j', O,o0', u', rfl,r1,r2,r3,rfl⟩ | ⟨ha', hlt', e1'⟩
   · rw[phK j id A] at p
     rw[phK j' O r1] at p'
     have:=K.inj id O o0 o0' l l' F r2 p p' q
     subst this
     have hj:=(List.getElem?_eq_some_iff.1 A).1
     rw[(List.getElem?_inj hj hnd).1 (A.trans r1.symm)]
   · exact(mix j id o0 a' o' l l' A F (by rw[←phK j id A];exact p) ha' e1' (by rw[←B a' hlt'];exact p') q).elim
   · exact(mix j' O o0' a o l' l r1 r2 (by rw[←phK j' O r1];exact p') s e1 (by rw[←B a m];exact p) q.symm).elim
   · exact n.inj a a' o o' l l' e1 e1' (by rw[←B a m];exact p) (by rw[←B a' hlt'];exact p') q
 · rw[hnx2] at s
   have:kp[k+(a-S.nx)]? = none:=List.getElem?_eq_none (by rw[hlen];omega)
   rw[L]
   simp only[show ¬ (a<S.nx) from by omega,if_false,this]
 · refine D.gQ b U fun id o l I _ R=>?_
   rw[h0] at I
   obtain⟨a,s⟩:=M id o I
   obtain⟨A,F⟩:=hS id a o s I
   exact hne a _ l A F (by rw[←G id a s,←C.ph];exact R)
 · rcases Z a o e1 with⟨j,id,o0,o', rfl,A,F,q3,rfl⟩ | ⟨_,m,E⟩
   · rw[phK j id A] at e3
     obtain⟨d,o1,N,I,f2,R,f4⟩:=D.own id o0 l F (by rw[h2];omega) e3 e4
     exact fin _ d o1 N I R f4
   · exact⟨a,o,l,E,e2,by rw[←B a m];exact e3,rfl⟩
 · refine getLow a (by omega) fun hm=>?_
   obtain⟨i,hi2⟩:=List.getElem?_of_mem hm
   obtain⟨_,_,_,q⟩:=W i _ hi2
   omega
 · rw[L] at e
   rcases H b c e with q | ⟨_,id,o,l,A,F,q3⟩
   · rcases D.wC b c q U with f | ⟨d,o0,N,I,f2,R,f4⟩
     · exact .inl (by rw[←C.ro];exact f)
     · exact .inr (fin _ d o0 N I R f4)
   · rw[pE] at A
     split at A
     · simp at A
     · obtain⟨d,o0,N,I,f2,R,f4⟩:=D.own id o l A (by rw[h2];omega) F (by rw[q3];exact U)
       exact .inr (fin _ d o0 N I R (f4.trans q3))
 · refine(getLow a s fun hm=>?_).trans e
   obtain⟨i,hi2⟩:=List.getElem?_of_mem hm
   obtain⟨o', _,q,_⟩:=W i _ hi2
   rw[e] at q;simp at q
def G3 (k m:Nat)(kp:List Nat):Bool:=kp.Nodup&&Nat.beq kp.length (k+m)&&(List.range k).all fun i=>kp[i]? == some i
def mY (S:af)(kp:List Nat):Nat→List (Option ak)→Prop
 | _,[]=>True
 | i,none::r=>mY S kp (i+1) r
 | i,some o' :: r=>(∃ o,S.get i=some o∧rN S kp o o')∧mY S kp (i+1) r
def tO (S:af)(kp:List Nat):List Nat→List ak→Prop
 | _,[]=>True
 | [],_::_=>False
 | id::r,o' :: l=>(∃ o,S.get id=some o∧rN S kp o o')∧tO S kp r l
variable {i : Nat}
theorem aW : mY S kp i []:=trivial
variable {r : List (Option ak)}
theorem Ya (h:mY S kp (i+1) r):mY S kp i (none::r):=h
variable {o o' : ak}
theorem A1 (e:S.get i=some o)(f:rN S kp o o')(h:mY S kp (i+1) r):mY S kp i (some o' :: r):=⟨⟨o,e,f⟩,h⟩
theorem ah {l:List Nat}:tO S kp l []:=by cases l<;>trivial
theorem HZ {l:List Nat}{r:List ak}(e:S.get id=some o)(f:rN S kp o o')(h:tO S kp l r):tO S kp (id::l) (o' :: r):=⟨⟨o,e,f⟩,h⟩
theorem A3 : ∀ {l:List (Option ak)} {i:Nat},mY S kp i l→∀(j:Nat) (o' : ak),l[j]? = some (some o')→∃ o,S.get (i+j)=some o∧rN S kp o o' := by
 intro l
 induction l with
 | nil=>intro i _ j o' e;simp at e
 | cons a l b=>
   intro i h j o' e
   cases j with
   | zero=>simp at e;subst e;exact h.1
   | succ j=>
     have c:mY S kp (i+1) l:=by cases a<;>first | exact h | exact h.2
     have:=b c j o' (by simpa using e)
     rw[show i+1+j=i+(j+1) from by omega] at this
     exact this
theorem A4 : ∀ {l:List ak} {ids:List Nat},tO S kp ids l→∀(j:Nat) (o' : ak),l[j]? = some o' → ∃ id o,ids[j]? = some id∧S.get id=some o∧rN S kp o o' := by
 intro l
 induction l with
 | nil=>intro ids _ j o' e;simp at e
 | cons a l c=>
   intro ids h j o' e
   cases ids with
   | nil=>exact h.elim
   | cons id r=>
     cases j with
     | zero=>simp at e;subst e;obtain⟨o,p,q⟩:=h.1;exact⟨id,o,rfl,p,q⟩
     | succ j=>
       obtain⟨b,o,p,q⟩:=c h.2 j o' (by simpa using e)
       exact⟨b,o,by simpa using p,q⟩
def ur (S:af):List Nat→List ak→Prop
 | a::r,o::l=>(S.get a=some o∧Nat.ble S.lim a=true)∧ur S r l
 | [],[]=>True
 | _,_=>False
theorem YD (S:af):ur S [] []:=trivial
theorem Yb {r:List Nat}{l:List ak}(h:S.get a=some o)(b:Nat.ble S.lim a=true)(t:ur S r l):ur S (a::r) (o::l):=⟨⟨h,b⟩,t⟩
theorem H0 : ∀ {ids:List Nat} {l:List ak},ur S ids l→ids.length=l.length∧∀(i a:Nat) (o:ak),ids[i]? = some a→l[i]? = some o→S.get a=some o∧S.lim≤a:=by
 intro ids
 induction ids with
 | nil=>
   intro l h
   cases l with
   | nil=>exact⟨rfl,fun i a o e=>by simp at e⟩
   | cons x l=>exact h.elim
 | cons b r d=>
   intro l h
   cases l with
   | nil=>exact h.elim
   | cons x l=>
     obtain⟨p,q⟩:=d h.2
     refine⟨by simp[p],fun i a o e c=>?_⟩
     cases i with
     | zero=>simp at e c;subst e;subst c;exact⟨h.1.1,eL h.1.2⟩
     | succ i=>exact q i a o (by simpa using e) (by simpa using c)
section
variable {T : FT} {P : Program} {Q : ic → af → Prop}
theorem XJ (E:bZ T P)(n:Nat){s:St}(kp:List Nat)(h:xJ (ab T P n s)=some v)(b:G3 k add.length kp=true)(c:ie (NJ (ab T P n s)) kp v v')(d:mY (NJ (ab T P n s)) kp 0 j2)(f:tO (NJ (ab T P n s)) kp (kp.drop k) add):SX P (RG k v' j2 add) s:=by
 refine⟨cj E.ok E.mix n ?_⟩
 generalize ab T P n s=s at h c d f
 unfold xJ at h
 split at h<;>simp only[ar,reduceCtorEq] at h
 subst h
 simp only[G3,Bool.and_eq_true,decide_eq_true_eq,List.all_eq_true,List.mem_range,beq_iff_eq] at b
 obtain⟨⟨k1,k2⟩,k3⟩:=b
 refine⟨_,kp,rfl,k1,jK k2,k3,c,fun i o' e=>?_,fun i o' e=>?_⟩
 · have:=A3 d i o' e
   rwa [Nat.zero_add] at this
 · obtain⟨id,o,p,q⟩:=A4 f i o' e
   exact⟨id,o,by rwa [List.getElem?_drop] at p,q⟩
theorem Mh (E:bZ T P){f:Nat}{c:List AV}{d:List ak}{g:List (Option ak)}{j:List ak}(m:List (Option ak))(h:SX P (RG k v j2 add) (St.start T f args (oL olds.length (lV 0 olds))))(t:j2.length=k)(u:Nat.ble k olds.length=true)(q:m.all Option.isNone=true)(s:k+m.length=olds.length)(S:af)(ids:List Nat)(n:Nat.ble S.lim S.nx=true)(w:ids.Nodup)(y:ur S ids d)(p:olds.map (ak.ax (sJ ids S.nx))=d)(z:dW (sJ ids S.nx) args=c)(A:v.ax (sJ (ids.take k) S.nx)=v')(B:j2.map (Option.map (ak.ax (sJ (ids.take k) S.nx)))++m=g)(C:add.map (ak.ax (sJ (ids.take k) S.nx))=j) :
   dc P f c S fun r D=>r=.ret v' ∧ D=vG (rf S (ids.zip g)) j:=by
 subst p;subst z;subst A;subst B;subst C
 obtain⟨a,b⟩:=H0 y
 refine dc.gen (u0 E.ok h.out) (eL u) (fun o p=>?_) s (D7 olds) rfl rfl t (eL n) (by simpa using a) w fun i x o e F=>?_
 · have:=List.all_eq_true.1 q o p
   cases o with
   | none=>rfl
   | some _=>simp at this
 · exact b i x _ e (by rw[List.getElem?_map,F];rfl)
end
end
end Go.Eng

/- The machine of abstract runs and its soundness; no conditions. -/
import Derived.Test.YtehhcejekfibpaaGreatVEngC
import Derived.RowKit3
set_option linter.unusedVariables false
set_option linter.unusedSimpArgs false
namespace Go.Eng
theorem Ext.grown {g g' : Gh}{w w' : World}{a:af}(h:Ext af.empty g w a g' w'):w.keptBut w' (fun _=>False):=by
 refine⟨h.os,h.output,fun i hi=>?_⟩
 have:=h.gw i hi fun id o l e=>by rw[af.cS] at e;simp at e
 rw[this]
 cases w.heap[i]? with
 | none=>rfl
 | some o=>cases o<;>first | rfl | exact⟨rfl,rfl,rfl,fun _ _=>rfl⟩ | exact .inr ⟨rfl,rfl⟩
theorem cL.calls {P:Program}{f:FuncId}(h:cL P f [] af.empty fun r d=>r=.ret (.sc (.bool true))∧d=af.empty)(w:World):Calls P f #[] w fun e w' => e=.returned (.bool true)∧w.keptBut w' (fun _=>False):=by
 have hi:Inv af.empty ⟨fun _=>none,fun _=>none⟩ w:=⟨fun b c e=>by simp at e,fun id o e=>by rw[af.cS] at e;simp at e,fun id i o o' l l' e=>by rw[af.cS] at e;simp at e,fun _ _=>rfl⟩
 refine(h _ w #[] (fe.nil _) hi).mono fun e w' ⟨r,d,g', ⟨g,_⟩,a,_,hx⟩=>⟨?_,hx.grown⟩
 subst g
 cases e with
 | returned x=>cases a;rfl
 | panicked c=>exact a.elim
 | outgrown=>exact a.elim
end Go.Eng
namespace Go.Eng
noncomputable section
inductive abX where
 | val (d : Option Nat) (v : AV)
 | put (d : Option Nat) (v : AV) (S : af)
 | pass
def cO : St→Option Oper
 | .run _ F _ _=>match F.mode,F.todo with
   | .run,.ops all (i::_)::_=>match I0 all i with
     | some o=>match qP F all o with
       | some true=>some o
       | _=>none
     | none=>none
   | _,_=>none
 | .e9 D _=>match D.os with
   | o::_=>match qP D.F D.ops o with
     | some true=>some o
     | _=>none
   | []=>none
 | _=>none
def aq1 : Option Nat→Option Nat→Bool
 | some a,some b=>Nat.beq a b
 | none,none=>true
 | _,_=>false
def zr (s:St)(d:Option Nat):Bool:=
 match cO s with
 | some o=>aq1 o.dst d
 | none=>false
def BS : St→Bool
 | .run _ F _ _=>match F.mode,F.todo with
   | .run,.code (.loop _)::_=>true
   | _,_=>false
 | .done _ _=>true
 | .bad _=>true
 | .fork _ _ _=>true
 | _=>false
def aF (v:AV)(b:Option af):St→St
 | .run fn F S k=>match F.todo with
   | .ops all (i::rest)::td=>match I0 all i with
     | some o=>match b with
       | some b=>.run fn (mc F o v all rest td) b k
       | none=>.run fn (mc F o v all rest td) S k
     | none=>.bad 60
   | _=>.bad 60
 | .e9 D k=>match D.os,b with
   | o::os,none=>.e9 (D.next o os (al D.dX o.after.toList) v D.S.nx [] none) k
   | _,_=>.bad 60
 | _=>.bad 60
def pop (P:Program)(ρ:Operand→Option AV):Op→Option AV
 | .binOp op t x y _=>match ρ x,ρ y with
   | some a,some b=>rO P op t a b
   | _,_=>none
 | .unOp op _ x=>match ρ x with
   | some a=>KB op a
   | none=>none
 | .indexAddr t x g=>match ρ x,ρ g with
   | some a,some b=>dh P af.empty t a.pc b
   | _,_=>none
 | .convert e f x=>match ρ x with
   | some a=>zH P e f a
   | none=>none
 | .call c=>match c.callee,pH ρ c.args.toList,c.argTypes.toList with
   | .builtin .len,some [x],t::_=>match xy P af.empty t x.pc with
     | some n=>some (.sc (.int .i64 n))
     | none=>none
   | _,_,_=>none
 | _=>none
variable {P : Program} {t : TypeId} {a r : AV}
theorem yy {b:AV}(h:dh P af.empty t a b=some r)(S:af):dh P S t a b=some r:=by
 unfold dh at h ⊢
 split at h<;>try (simp at h;done)
 split at h<;>try (simp at h;done)
 · split at h<;>try (simp at h;done)
   split at h<;>try (simp at h;done)
   · split at h<;>try (simp at h;done)
     rw[af.cS] at h;simp at h
   · exact h
 · exact h
theorem Qs {lo hi:Option AV}(h:ku P af.empty t a lo hi=some r)(S:af):ku P S t a lo hi=some r:=by
 unfold ku at h ⊢
 split at h<;>try (simp at h;done)
 rotate_left
 · exact h
 split at h
 · split at h<;>try (simp at h;done)
   split at h
   · rw[af.cS] at h;simp at h
   · unfold GD at h;rw[af.cS] at h;simp at h
 · exact h
 · exact h
 · exact h
 · simp at h
variable {n : Nat}
theorem JJ (h:xy P af.empty t a=some n)(S:af):xy P S t a=some n:=by
 unfold xy at h ⊢
 split at h
 all_goals first
  | exact h
  | (rw[af.cS] at h;simp at h;done)
  | (simp at h;done)
variable {v : AV}
theorem Iw {ρ:Operand→Option AV}{o:Op}(h:pop P ρ o=some v)(S:af):fK P ρ S o=some (.val v S)∧bG o=false∧gE o=none:=by
 unfold pop at h
 split at h<;>try (simp at h;done)
 · split at h<;>try (simp at h;done)
   rename_i a b c g
   refine⟨?_,rfl,rfl⟩
   simp only[fK,c,g]
   split
   · rename_i e f
     simp only[an] at e f
     subst e;subst f
     simp[rO] at h
   · rename_i e f
     simp only[an] at e f
     subst e;subst f
     rw[h];rfl
   · rename_i i
     exact(i a b rfl rfl).elim
 · split at h<;>try (simp at h;done)
   rename_i c
   exact⟨by simp only[fK,c,h,jC],rfl,rfl⟩
 · split at h<;>try (simp at h;done)
   rename_i c g
   exact⟨by simp only[fK,c,g,yy h S,jC],rfl,rfl⟩
 · split at h<;>try (simp at h;done)
   rename_i c
   exact⟨by simp only[fK,c,h,jC],rfl,rfl⟩
 · split at h<;>try (simp at h;done)
   rename_i j hx l
   split at h<;>simp only[an,reduceCtorEq] at h
   rename_i n i
   subst h
   refine⟨by simp only[fK,tr,hx,j,fM,l,JJ i S],?_,?_⟩
   · simp only[bG,j]
   · simp only[gE,j]
def ym (T:FT)(P:Program)(v:AV)(e:Option af):St→Prop
 | .run _ F S _=>match cO (.run default F S .nil) with
   | some o=>match gE o.op,e with
     | some c,none=>match ql T F c P with
       | some (g,_,args)=>∀ S,cL P g args S fun r b=>r=.ret v∧b=S
       | none=>False
     | some c,some e=>match ql T F c P with
       | some (g,_,args)=>cL P g args S fun r b=>r=.ret v∧b=e
       | none=>False
     | none,none=>pop P F.eval o.op=some v
     | none,some e=>match bG o.op,o.dst with
       | false,some _=>yl P F.eval S o.op=some (.val v e)
       | false,none=>v=.bM []∧yl P F.eval S o.op=some (.skip e)
       | true,_=>False
   | none=>False
 | .e9 D _=>match D.os,e with
   | o::_,none=>match gE o.op with
     | some c=>match ql T D.F c P with
       | some (g,_,args)=>∀ S,cL P g args S fun r b=>r=.ret v∧b=S
       | none=>False
     | none=>pop P D.F.eval o.op=some v
   | _,_=>False
 | _=>False
def sx (T:FT)(P:Program):Nat→List abX→St→St
 | 0,_,s=>s
 | n+1,[],s=>match BS s with
   | true=>s
   | false=>sx T P n [] (s.step T P)
 | n+1,.val d v::r,s=>match zr s d with
   | true=>sx T P n r (aF v none s)
   | false=>sx T P n (.val d v::r) (s.step T P)
 | n+1,.put d v b::r,s=>match zr s d with
   | true=>sx T P n r (aF v (some b) s)
   | false=>sx T P n (.put d v b::r) (s.step T P)
 | n+1,.pass::r,s=>match BS s with
   | true=>sx T P n r (s.step T P)
   | false=>sx T P n (.pass::r) (s.step T P)
def IQ (T:FT)(P:Program):Nat→List abX→St→Prop
 | 0,_,_=>True
 | n+1,[],s=>match BS s with
   | true=>True
   | false=>IQ T P n [] (s.step T P)
 | n+1,.val d v::r,s=>match zr s d with
   | true=>ym T P v none s∧IQ T P n r (aF v none s)
   | false=>IQ T P n (.val d v::r) (s.step T P)
 | n+1,.put d v b::r,s=>match zr s d with
   | true=>ym T P v (some b) s∧IQ T P n r (aF v (some b) s)
   | false=>IQ T P n (.put d v b::r) (s.step T P)
 | n+1,.pass::r,s=>match BS s with
   | true=>IQ T P n r (s.step T P)
   | false=>IQ T P n (.pass::r) (s.step T P)
section
variable {T : FT} {P : Program} {Qf : gI → af → Prop}
variable {fn : Func} {F : ad} {S : af} {k : cu} {o : Oper}
theorem u3 (h:cO (.run fn F S k)=some o) :
  F.mode=.run∧∃ all i rest td,F.todo=.ops all (i::rest)::td∧all[i]? = some o∧qP F all o=some true:=by
 simp only[cO] at h
 split at h<;>try (simp at h;done)
 rename_i all i rest td c e
 split at h<;>try (simp at h;done)
 rename_i o' b
 split at h<;>simp only[an,reduceCtorEq] at h
 rename_i f
 subst h
 rw[vH] at b
 exact⟨c,all,i,rest,td,e,b,f⟩
theorem u4 {D:rC}(h:cO (.e9 D k)=some o):∃ os,D.os=o::os∧qP D.F D.ops o=some true:=by
 simp only[cO] at h
 split at h<;>try (simp at h;done)
 rename_i o' os b
 split at h<;>simp only[an,reduceCtorEq] at h
 rename_i c
 subst h
 exact⟨os,b,c⟩
variable {s : St} {d : Option Nat}
theorem JK (h:zr s d=true):∃ o,cO s=some o:=by
 unfold zr at h
 split at h
 · rename_i o e;exact⟨o,e⟩
 · simp at h
theorem sA (N:cq T P){f:Option af}(hh:zr s d=true)(b:ym T P v f s)(h:aA P Qf (aF v f s)):aA P Qf s:=by
 obtain⟨o,A⟩:=JK hh
 cases s with
 | run fn F S k=>
   obtain⟨H,all,i,rest,td,B,m,y⟩:=u3 A
   have M:cO (.run default F S .nil)=some o:=A
   have I:aA P Qf (.run fn (F.after o v all rest td) (f.getD S) k):=by
     simp only[aF,B,vH,m] at h
     cases f with
     | none=>simp only[gy] at h;exact h
     | some f=>simp only[gy] at h;exact h
   simp only[ym,M] at b
   cases j:gE o.op with
   | some c=>
     have key:∀ g e args,ql T F c P=some (g,e,args)→cL P g args S (fun r C=>r=.ret v∧C=f.getD S)→aA P Qf (.run fn F S k):=by
       intro g e args w b
       obtain⟨R,J⟩:=mh N j w
       refine aA.reach (fun G q=>Reach.ze H B m y (gr j) (J S) b fun r C U=>?_) I
       obtain⟨rfl,rfl⟩:=U
       exact q
     cases f with
     | none=>
       rw[j] at b
       simp only at b
       split at b
       · rename_i g e args w;exact key g e args w (b S)
       · exact b.elim
     | some f=>
       rw[j] at b
       simp only at b
       split at b
       · rename_i g e args w;exact key g e args w b
       · exact b.elim
   | none=>
     cases f with
     | none=>
       rw[j] at b
       simp only at b
       obtain⟨K,a2,_⟩:=Iw b S
       exact aA.reach (fun G q=>Reach.GF H B m y a2 K q) I
     | some f=>
       rw[j] at b
       simp only at b
       split at b
       · rename_i z L
         simp only[lU] at b
         exact aA.reach (fun G q=>Reach.GF H B m y z b q) I
       · rename_i z L
         simp only[lU] at b
         obtain⟨rfl,b⟩:=b
         exact aA.reach (fun G q=>Reach.Io H B m y z b q) I
       · exact b.elim
 | e9 D k=>
   obtain⟨os,u,y⟩:=u4 A
   have x:=vJ D.S.nx D.S.nx
   cases f with
   | some f=>simp only[aF,u] at h;exact h.elim
   | none=>
     simp only[aF,u] at h
     simp only[ym,u] at b
     have O:mL P D.ops o D.F.get ⟨D.S.nx,D.S.nx,.nil⟩ v ⟨D.S.nx,D.S.nx,.nil⟩→aA P Qf (.e9 D k):=by
       intro E
       refine fh.mono (fun Q q=>?_) h
       refine nZ.step q u rfl (fun F0 S0 E0 Y v0 ch L V W=>?_)
       have X:=W _ v _ E rfl fun id ob e=>by rw[x] at e;simp at e
       have:=L.news V u (ids:=[]) (nw:=[]) (Eo:=none) E X rfl (.inr rfl) (fun id ob e=>by rw[x] at e;simp at e) (fun id ob e=>by rw[x] at e;simp at e) (fun id e _=>by simp at e) (fun id e _ Z=>by simp at e)
         (fun id ob e=>by simp at e) (.inr ⟨rfl,x⟩)
       exact this
     cases j:gE o.op with
     | some c=>
       rw[j] at b
       simp only at b
       cases w:ql T D.F c P with
       | none=>rw[w] at b;exact b.elim
       | some p=>
         obtain⟨g,e,args⟩:=p
         rw[w] at b
         obtain⟨R,J⟩:=mh N j w
         exact O (mL.call y (gr j) (J _) (b _))
     | none=>
       rw[j] at b
       simp only at b
       obtain⟨K,a2,_⟩:=Iw b ⟨D.S.nx,D.S.nx,.nil⟩
       exact O (mL.val y a2 K)
 | done r S=>simp[cO] at A
 | fork fn k l=>simp[cO] at A
 | bad n=>simp[cO] at A
theorem Xu (f:cq T P)(c:P.follows .mixedOrders=true):∀(n:Nat) {l:List abX} {s:St},IQ T P n l s→aA P Qf (sx T P n l s)→aA P Qf s:=by
 intro n
 induction n with
 | zero=>intro l s _ h;exact h
 | succ n g=>
   intro l s b h
   cases l with
   | nil=>
     simp only[sx,IQ] at b h
     cases e:BS s with
     | true=>rw[e] at h;exact h
     | false=>rw[e] at b h;exact qw f c (g b h)
   | cons x r=>
     cases x with
     | val d v=>
       simp only[sx,IQ] at b h
       cases e:zr s d with
       | true=>rw[e] at b h;exact sA f e b.1 (g b.2 h)
       | false=>rw[e] at b h;exact qw f c (g b h)
     | put d v i=>
       simp only[sx,IQ] at b h
       cases e:zr s d with
       | true=>rw[e] at b h;exact sA f e b.1 (g b.2 h)
       | false=>rw[e] at b h;exact qw f c (g b h)
     | pass=>
       simp only[sx,IQ] at b h
       cases e:BS s with
       | true=>rw[e] at b h;exact qw f c (g b h)
       | false=>rw[e] at b h;exact qw f c (g b h)
theorem tZ (c:cq T P){f:Nat}{args:List AV}(h:aA P Qf (St.start T f args S)):cL P f args S Qf:=by
 unfold St.start at h
 cases b:FT.look T f with
 | none=>rw[b] at h;exact h.elim
 | some e=>
   rw[b] at h
   obtain⟨t1,t2,_,_⟩:=c f e b
   exact cL.nO e.mask t1 t2 h
variable {F' : ad}
theorem aA.weaken (i:F'.fn=F.fn)(m:F'.n=F.n)(p:F'.todo=F.todo)(u:F'.defers=F.defers)(y:F'.mode=F.mode)(j:F'.kind=F.kind)(z:F'.cm=F.cm)(l:F'.round=F.round)(A:∀ t f,F'.get t=some f→∃ v,F.get t=some v∧(f=v∨f=.top))(h:aA P Qf (.run fn F' S k)):aA P Qf (.run fn F S k):=by
 refine aA.reach (fun G q=>?_) h
 refine Reach.uF q j i l z fun g w fr cs e hi=>⟨fr,w,g,?_,hi,Ext.refl _ _ _,Steps.refl _ _⟩
 refine⟨by rw[i];exact e.fn,by rw[m];exact e.size,fun t f B=>?_,by rw[p];exact e.todo,by rw[u];exact e.defers,by rw[y];exact e.mode,by rw[j];exact e.kind,by rw[l];exact e.round⟩
 obtain⟨v,a,b⟩:=A t f B
 obtain⟨x,c,d⟩:=e.get t v a
 refine⟨x,c,?_⟩
 rcases b with rfl | rfl
 · exact d
 · exact .top
theorem abM (f:cq T P)(b:P.follows .mixedOrders=true){l:List abX}{c:Func}{e:af}{G:ad→af→Prop}(g:IQ T P n l (.run fn F S (.hole G)))(h:sx T P n l (.run fn F S (.hole G))=.run c F' e (.hole G))(q:Reach P F' e G):Reach P F S G:=
 Xu (Qf:=fun _ _=>False) f b n g (by rw[h];exact q)
end
end
end Go.Eng
namespace Go.Eng
noncomputable section
section
variable (σ : Nat → Nat)
mutual
def AV.aw : AV→AV
 | .sc v=>.sc v
 | .agg cs=>.agg (dE cs)
 | .dV=>.dV
 | .ax=>.ax
 | .lit es=>.lit (dE es)
 | .fa cs=>.fa (dE cs)
 | .ptr id i j=>.ptr (σ id) i j
 | .ak id o l=>.ak (σ id) o l
 | .dm id=>.dm (σ id)
 | .fn f a b=>.fn f (dE a) (dE b)
 | .eS t v=>.eS t v.aw
 | .bM c=>.bM (dE c)
 | .nU id=>.nU (σ id)
 | .clip v=>.clip v.aw
 | .top=>.top
def dE : List AV→List AV
 | []=>[]
 | v::l=>v.aw::dE l
end
end
theorem tR (σ:Nat→Nat)(l:List AV):dE σ l=l.map (AV.aw σ):=by
 induction l with
 | nil=>simp[dE]
 | cons a l c=>simp[dE,c]
theorem az (σ:Nat→Nat)(l:List AV):(dE σ l).length=l.length:=by rw[tR];simp
theorem hP (σ:Nat→Nat)(l:List AV)(k:Nat):(dE σ l)[k]? = l[k]?.map (AV.aw σ):=by rw[tR];simp
structure iK (σ : Nat → Nat) (g g2 : Gh) : Prop where
 ro : g.ro = g2.ro
 ph : ∀ id, g.ph id = g2.ph (σ id)
theorem AV.fA (σ:Nat→Nat)(v:AV):(v.aw σ).cells=dE σ v.cells:=by
 cases v<;>simp[AV.aw,AV.cells,dE]
theorem VR.aw {σ:Nat→Nat}{g g2:Gh}(h:iK σ g g2){v:AV}{x:Value}(y:VR g v x):VR g2 (v.aw σ) x:=by
 have key:∀ {l:List AV} {k:Nat} {a:AV},(dE σ l)[k]? = some a→∃ b,l[k]? = some b∧a=b.aw σ:=by
   intro l k a e
   rw[hP] at e
   cases m:l[k]? with
   | none=>rw[m] at e;simp at e
   | some b=>rw[m] at e;simp at e;exact⟨b,rfl,e.symm⟩
 induction y with
 | sc hh=>rw[AV.aw];exact .sc hh
 | agg d _ f=>
   rw[AV.aw]
   refine .agg (by rw[az];exact d) fun k a x e n=>?_
   obtain⟨b,p,rfl⟩:=key e
   exact f k b x p n
 | dV=>rw[AV.aw];exact .dV
 | ax=>rw[AV.aw];exact .ax
 | @lit es b o sz cap c t z m s _ f=>
   rw[AV.aw]
   have e:=az σ es
   have:VR g2 (.lit (dE σ es)) (.slice (some ⟨b,o,none⟩) (dE σ es).length cap):=by
    refine .lit (by rw[←h.ro];exact t) ?_ (by rw[e];exact m) (by rw[e];exact s) fun i j G a x p q r=>?_
    · intro a A
      obtain⟨k,B⟩:=List.getElem?_of_mem A
      obtain⟨b,p,rfl⟩:=key B
      rw[AV.fA,az]
      exact z b (sq p)
    · obtain⟨b,u,rfl⟩:=key p
      rw[AV.fA] at q
      obtain⟨C,D,rfl⟩:=key q
      exact f i j b C x u D r
   rw[e] at this
   exact this
 | gi=>rw[AV.aw,dE];exact .gi
 | fa t m _ f=>
   rw[AV.aw]
   refine .fa (by rw[←h.ro];exact t) (by rw[az];exact m) fun j a x p q=>?_
   obtain⟨b,u,rfl⟩:=key p
   exact f j b x u q
 | ptr d=>rw[AV.aw];exact .ptr (by rw[←h.ph];exact d)
 | ak d E m=>rw[AV.aw];exact .ak (by rw[←h.ph];exact d) E m
 | fI d m=>rw[AV.aw];exact .fI (by rw[←h.ph];exact d) m
 | dm d=>rw[AV.aw];exact .dm (by rw[←h.ph];exact d)
 | fn hx F _ _ f w=>
   rw[AV.aw]
   refine .fn (by rw[az];exact hx) (by rw[az];exact F) (fun k a x e n=>?_) (fun k a x e n=>?_)
   · obtain⟨b,p,rfl⟩:=key e;exact f k b x p n
   · obtain⟨b,p,rfl⟩:=key e;exact w k b x p n
 | eS _ f=>rw[AV.aw];exact .eS f
 | bM d _ f=>
   rw[AV.aw]
   refine .bM (by rw[az];exact d) fun k a x e n=>?_
   obtain⟨b,p,rfl⟩:=key e
   exact f k b x p n
 | nU d=>rw[AV.aw];exact .nU (by rw[←h.ph];exact d)
 | clip _ f=>rw[AV.aw];exact .clip f
 | top=>rw[AV.aw];exact .top
theorem VR.gx {σ:Nat→Nat}{g g2:Gh}(h:iK σ g g2){w:AV}{x:Value}(z:VR g2 w x):∀ {v:AV},w=v.aw σ→VR g v x:=by
 have d:∀ {l:List AV} {k:Nat} {a:AV},l[k]? = some a→(dE σ l)[k]? = some (a.aw σ):=by
   intro l k a e;rw[hP,e];rfl
 induction z with
 | sc hh=>intro v e;cases v<;>simp[AV.aw] at e;subst e;exact .sc hh
 | agg f _ m=>
   intro v e;cases v<;>simp[AV.aw] at e;subst e
   exact .agg (by rw[←f,az]) fun k a x p q=>m k _ x (d p) q rfl
 | dV=>intro v e;cases v<;>simp[AV.aw] at e;exact .dV
 | ax=>intro v e;cases v<;>simp[AV.aw] at e;exact .ax
 | @lit es b o sz cap c t A n s _ m=>
   intro v e;cases v<;>simp[AV.aw] at e;subst e
   rename_i es hh
   have e:=az σ es
   rw[e] at n s ⊢
   refine .lit (by rw[h.ro];exact t) (fun a B=>?_) n s fun i j E a x p q r=>?_
   · obtain⟨k,C⟩:=List.getElem?_of_mem B
     have:=A _ (sq (d C))
     rwa [AV.fA,az] at this
   · exact m i j _ _ x (d p) (by rw[AV.fA];exact d q) r rfl
 | gi=>intro v e;cases v<;>simp[AV.aw] at e;rename_i es;cases es<;>simp[dE] at e;exact .gi
 | fa t n _ m=>
   intro v e;cases v<;>simp[AV.aw] at e;subst e
   exact .fa (by rw[h.ro];exact t) (by rw[az] at n;exact n) fun j a x p q=>m j _ x (d p) q rfl
 | ptr f=>intro v e;cases v<;>simp[AV.aw] at e;obtain⟨rfl,rfl,rfl⟩:=e;exact .ptr (by rw[h.ph];exact f)
 | ak f D n=>intro v e;cases v<;>simp[AV.aw] at e;obtain⟨rfl,rfl,rfl⟩:=e;exact .ak (by rw[h.ph];exact f) D n
 | fI f n=>intro v e;cases v<;>simp[AV.aw] at e;obtain⟨rfl,rfl,rfl⟩:=e;exact .fI (by rw[h.ph];exact f) n
 | dm f=>intro v e;cases v<;>simp[AV.aw] at e;subst e;exact .dm (by rw[h.ph];exact f)
 | fn hx y _ _ m u=>
   intro v e;cases v<;>simp[AV.aw] at e;obtain⟨rfl,rfl,rfl⟩:=e
   exact .fn (by rw[az] at hx;exact hx) (by rw[az] at y;exact y) (fun k a x p q=>m k _ x (d p) q rfl) (fun k a x p q=>u k _ x (d p) q rfl)
 | eS _ m=>intro v e;cases v<;>simp[AV.aw] at e;obtain⟨rfl,rfl⟩:=e;exact .eS (m rfl)
 | bM f _ m=>
   intro v e;cases v<;>simp[AV.aw] at e;subst e
   exact .bM (by rw[←f,az]) fun k a x p q=>m k _ x (d p) q rfl
 | nU f=>intro v e;cases v<;>simp[AV.aw] at e;subst e;exact .nU (by rw[h.ph];exact f)
 | clip _ m=>intro v e;cases v<;>simp[AV.aw] at e;subst e;exact .clip (m rfl)
 | top=>intro v e;cases v<;>simp[AV.aw] at e;exact .top
def gC (σ:Nat→Nat)(l:List (Nat×AV)):List (Nat×AV):=l.map fun p=>(p.1,p.2.aw σ)
theorem zh (σ:Nat→Nat)(l:List (Nat×AV))(t:Nat):lk (gC σ l) t=(lk l t).map (AV.aw σ):=by
 induction l with
 | nil=>simp[gC,nC]
 | cons a l c=>
   obtain⟨k,v⟩:=a
   simp only[gC,List.map_cons,fU] at *
   cases Nat.beq k t with
   | true=>rfl
   | false=>exact c
def ai.aw (σ:Nat→Nat):ai→ai
 | .arr sz es=>.arr sz (dE σ es)
 | .mp c=>.mp (c.map fun p=>(p.1.aw σ,p.2.aw σ))
 | .lp st pending fn n mask env params assign body=>.lp st pending fn n mask (gC σ env) params assign body
 | .df o=>.df o
 | .si s p=>.si s p
 | .mi m since seen=>.mi (σ m) since seen
 | .mz=>.mz
theorem LR.aw {σ:Nat→Nat}{g g2:Gh}(h:iK σ g g2){l:List (Nat×AV)}{tmps:Array Value}(d:LR g l tmps):LR g2 (gC σ l) tmps:=by
 intro t v e
 rw[zh] at e
 cases c:lk l t with
 | none=>rw[c] at e;simp at e
 | some u=>rw[c] at e;simp at e;subst e;obtain⟨x,a,b⟩:=d t u c;exact⟨x,a,b.aw h⟩
theorem LR.gx {σ:Nat→Nat}{g g2:Gh}(h:iK σ g g2){l:List (Nat×AV)}{tmps:Array Value}(c:LR g2 (gC σ l) tmps):LR g l tmps:=by
 intro t v e
 obtain⟨x,a,b⟩:=c t (v.aw σ) (by rw[zh,e];rfl)
 exact⟨x,a,b.gx h rfl⟩
theorem rI.aw {σ:Nat→Nat}{g g2:Gh}(h:iK σ g g2){l:Loc}{x:Option Obj}{o:ai}(u:rI g l x o):rI g2 l x (o.aw σ):=by
 cases o with
 | arr sz es=>
   obtain⟨c,t,h1,h2,h3,h4,h5,h6⟩:=u
   refine⟨c,t,h1,h2,h3,by rw[az];exact h4,?_,?_⟩
   · intro e A
     obtain⟨k,v⟩:=List.getElem?_of_mem A
     rw[hP] at v
     cases f:es[k]? with
     | none=>rw[f] at v;simp at v
     | some b=>rw[f] at v;simp at v;subst v;rw[AV.fA,az];exact h5 b (sq f)
   · intro i j e a y p q r
     rw[hP] at p
     cases f:es[i]? with
     | none=>rw[f] at p;simp at p
     | some b=>
       rw[f] at p;simp at p;subst p
       rw[AV.fA,hP] at q
       cases w:b.cells[j]? with
       | none=>rw[w] at q;simp at q
       | some d=>rw[w] at q;simp at q;subst q;exact(h6 i j b d y f w r).aw h
 | mp z=>
   obtain⟨es,k,h1,h2,h3,h4⟩:=u
   refine⟨es,k,h1,by simpa using h2,fun i B e p q=>?_,h4⟩
   rw[List.getElem?_map] at p
   cases f:z[i]? with
   | none=>rw[f] at p;simp at p
   | some b=>rw[f] at p;simp at p;subst p;exact⟨(h3 i b e f q).1.aw h,(h3 i b e f q).2.aw h⟩
 | lp st pending fn n mk env params assign body=>
   obtain⟨lo,h1,h2,h3,h4,h5,h6,h7,h8,h9⟩:=u
   exact⟨lo,h1,h2,h3,h4,h5,h6.aw h,h7,h8,h9⟩
 | df o=>exact u
 | si s p=>exact u
 | mi m since seen=>obtain⟨lm,a,b,c⟩:=u;exact⟨lm,by rw[←h.ph];exact a,b,c⟩
 | mz=>exact u
theorem rI.gx {σ:Nat→Nat}{g g2:Gh}(h:iK σ g g2){l:Loc}{x:Option Obj}{o:ai}(d:rI g2 l x (o.aw σ)):rI g l x o:=by
 cases o with
 | arr sz es=>
   obtain⟨c,t,h1,h2,h3,h4,h5,h6⟩:=d
   refine⟨c,t,h1,h2,h3,by rw[az] at h4;exact h4,?_,?_⟩
   · intro e u
     obtain⟨k,v⟩:=List.getElem?_of_mem u
     have:=h5 (e.aw σ) (sq (by rw[hP,v];rfl))
     rwa [AV.fA,az] at this
   · intro i j e a y p q r
     exact(h6 i j (e.aw σ) (a.aw σ) y (by rw[hP,p];rfl) (by rw[AV.fA,hP,q];rfl) r).gx h rfl
 | mp w=>
   obtain⟨es,k,h1,h2,h3,h4⟩:=d
   refine⟨es,k,h1,by simpa using h2,fun i f e p q=>?_,h4⟩
   have:=h3 i (f.1.aw σ,f.2.aw σ) e (by rw[List.getElem?_map,p];rfl) q
   exact⟨this.1.gx h rfl,this.2.gx h rfl⟩
 | lp st pending fn n mk env params assign body=>
   obtain⟨lo,h1,h2,h3,h4,h5,h6,h7,h8,h9⟩:=d
   exact⟨lo,h1,h2,h3,h4,h5,h6.gx h,h7,h8,h9⟩
 | df o=>exact d
 | si s p=>exact d
 | mi m since seen=>obtain⟨lm,a,b,c⟩:=d;exact⟨lm,by rw[h.ph];exact a,b,c⟩
 | mz=>exact d
def ay.aw (σ:Nat→Nat):ay→ay
 | .uE id=>.uE (σ id)
 | .mN id=>.mN (σ id)
 | x=>x
def zt (σ:Nat→Nat)(l:List (AV×Bool)):List (AV×Bool):=l.map fun p=>(p.1.aw σ,p.2)
def cQ.aw (σ:Nat→Nat):cQ→cQ
 | .panicking l=>.panicking (zt σ l)
 | m=>m
def fT.aw (σ:Nat→Nat):fT→fT
 | .call fn cap args=>.call fn (dE σ cap) (dE σ args)
 | .lF id=>.lF (σ id)
 | .rJ bs=>.rJ bs
def ad.aw (σ:Nat→Nat)(F:ad):ad:=
 match F with
 | ⟨fn,n,mask,loc,oO,todo,defers,mode,kind,cm,round⟩=>⟨fn,n,mask,gC σ loc,gC σ oO,todo.map (ay.aw σ),defers.map (fT.aw σ),mode.aw σ,kind,cm.aw σ,round.map σ⟩
theorem ad.zi (σ:Nat→Nat)(F:ad)(t:Nat):(F.aw σ).get t=(F.get t).map (AV.aw σ):=by
 obtain⟨fn,n,mask,loc,oO,todo,defers,mode,kind,cm,round⟩:=F
 simp only[ad.aw,ad.get]
 cases tb mask t<;>simp only[zh]
section
variable {σ : Nat → Nat} {g g2 : Gh}
theorem fe.aw (h:iK σ g g2){l:List AV}{xs:Array Value}(d:fe g l xs):fe g2 (dE σ l) xs:=by
 refine⟨by rw[az];exact d.1,fun k a x e f=>?_⟩
 rw[hP] at e
 cases c:l[k]? with
 | none=>rw[c] at e;simp at e
 | some b=>rw[c] at e;simp at e;subst e;exact(d.2 k b x c f).aw h
theorem fe.gx (h:iK σ g g2){l:List AV}{xs:Array Value}(c:fe g2 (dE σ l) xs):fe g l xs:=
 ⟨by rw[←c.1,az],fun k a x e d=>(c.2 k (a.aw σ) x (by rw[hP,e];rfl) d).gx h rfl⟩
theorem my.aw (h:iK σ g g2){l:List ay}{m:List Item}(c:my g l m):my g2 (l.map (ay.aw σ)) m:=by
 induction c with
 | nil=>exact .nil
 | cons hh _ d=>
   refine .cons ?_ d
   cases hh with
   | uE c=>exact .uE (by rw[←h.ph];exact c)
   | mN c=>exact .mN (by rw[←h.ph];exact c)
   | code=>exact .code
   | inBlock=>exact .inBlock
   | inLoop=>exact .inLoop
   | inScope=>exact .inScope
   | ops=>exact .ops
   | Gg=>exact .Gg
theorem my.gx (h:iK σ g g2):∀ {l:List ay} {m:List Item},my g2 (l.map (ay.aw σ)) m→my g l m:=by
 intro l
 induction l with
 | nil=>intro m d;cases d;exact .nil
 | cons a l e=>
   intro m d
   simp only[List.map_cons] at d
   cases d with
   | cons hh f=>
     refine .cons ?_ (e f)
     cases a with
     | uE id=>cases hh with | uE d=>exact .uE (by rw[h.ph];exact d)
     | mN id=>cases hh with | mN d=>exact .mN (by rw[h.ph];exact d)
     | code c=>cases hh;exact .code
     | inBlock c=>cases hh;exact .inBlock
     | inLoop c=>cases hh;exact .inLoop
     | inScope c=>cases hh;exact .inScope
     | ops a b=>cases hh;exact .ops
     | Gg=>cases hh;exact .Gg
theorem gD.aw (h:iK σ g g2){l:List (AV×Bool)}{m:List PanicEntry}(c:gD g l m):gD g2 (zt σ l) m:=by
 induction c with
 | nil=>exact .nil
 | cons d _ e=>exact .cons (d.aw h) e
theorem gD.gx (h:iK σ g g2):∀ {l:List (AV×Bool)} {m:List PanicEntry},gD g2 (zt σ l) m→gD g l m:=by
 intro l
 induction l with
 | nil=>intro m c;cases c;exact .nil
 | cons a l d=>
   intro m c
   obtain⟨v,b⟩:=a
   simp only[zt,List.map_cons] at c
   cases c with
   | cons e f=>exact .cons (e.gx h rfl) (d f)
theorem lG.aw (h:iK σ g g2){a:cQ}{b:FrameMode}(c:lG g a b):lG g2 (a.aw σ) b:=by
 cases c with
 | run=>exact .run
 | returning=>exact .returning
 | panicking d=>exact .panicking (d.aw h)
theorem lG.gx (h:iK σ g g2){a:cQ}{b:FrameMode}(c:lG g2 (a.aw σ) b):lG g a b:=by
 cases a with
 | run=>cases c;exact .run
 | returning=>cases c;exact .returning
 | panicking l=>cases c with | panicking d=>exact .panicking (d.gx h)
theorem jY.aw {P:Program}(h:iK σ g g2){l:List fT}{m:List Deferred}(d:jY P g l m):jY P g2 (l.map (fT.aw σ)) m:=by
 induction d with
 | nil=>exact .nil
 | cons e f i _ c=>exact .cons (e.aw h) (f.aw h) i c
 | lF d _ c=>exact .lF (by rw[←h.ph];exact d) c
 | rJ _ c=>exact .rJ c
theorem jY.gx {P:Program}(h:iK σ g g2):∀ {l:List fT} {m:List Deferred},jY P g2 (l.map (fT.aw σ)) m→jY P g l m:=by
 intro l
 induction l with
 | nil=>intro m c;cases c;exact .nil
 | cons a l e=>
   intro m c
   simp only[List.map_cons] at c
   cases a with
   | call fn cap args=>cases c with | cons f i j d=>exact .cons (f.gx h) (i.gx h) j (e d)
   | lF id=>cases c with | lF c d=>exact .lF (by rw[h.ph];exact c) (e d)
   | rJ bs=>cases c with | rJ d=>exact .rJ (e d)
variable {a b : Option Nat}
theorem pe.aw (h:iK σ g g2)(c:pe g a b):pe g2 (a.map σ) b:=by
 cases a<;>cases b<;>first | exact c | exact c.elim | (obtain⟨l,e,d⟩:=c;exact⟨l,by rw[←h.ph];exact e,d⟩)
theorem pe.gx (h:iK σ g g2)(c:pe g2 (a.map σ) b):pe g a b:=by
 cases a<;>cases b<;>first | exact c | exact c.elim | (obtain⟨l,e,d⟩:=c;exact⟨l,by rw[h.ph];exact e,d⟩)
theorem mw.aw {P:Program}(h:iK σ g g2){F:ad}{fr:Frame}(c:mw P g F fr):mw P g2 (F.aw σ) fr:=by
 refine⟨by cases F;exact c.fn,by cases F;exact c.size,fun t v e=>?_,by cases F;exact c.todo.aw h,by cases F;exact c.defers.aw h,by cases F;exact c.mode.aw h,by cases F;exact c.kind,by cases F;exact pe.aw h c.round⟩
 rw[ad.zi] at e
 cases d:F.get t with
 | none=>rw[d] at e;simp at e
 | some u=>rw[d] at e;simp at e;subst e;obtain⟨x,a,b⟩:=c.get t u d;exact⟨x,a,b.aw h⟩
theorem mw.gx {P:Program}(h:iK σ g g2){F:ad}{fr:Frame}(c:mw P g2 (F.aw σ) fr):mw P g F fr:=by
 refine⟨by cases F;exact c.fn,by cases F;exact c.size,fun t v e=>?_,by cases F;exact c.todo.gx h,by cases F;exact c.defers.gx h,by cases F;exact c.mode.gx h,by cases F;exact c.kind,by cases F;exact pe.gx h c.round⟩
 obtain⟨x,a,b⟩:=c.get t (v.aw σ) (by rw[ad.zi,e];rfl)
 exact⟨x,a,b.gx h rfl⟩
theorem tg.aw (h:iK σ g g2){F:ad}{e cs:List Frame}(f:tg g F e cs):tg g2 (F.aw σ) e cs:=by
 cases F
 unfold tg ad.aw at *
 simp only at *
 split at f
 · obtain⟨c,rest,m,a,b,d⟩:=f;exact⟨c,rest,m,a,b,d.aw h⟩
 · exact f
theorem tg.gx (h:iK σ g g2){F:ad}{e cs:List Frame}(f:tg g2 (F.aw σ) e cs):tg g F e cs:=by
 cases F
 unfold tg ad.aw at *
 simp only at *
 split at f
 · obtain⟨c,rest,m,a,b,d⟩:=f;exact⟨c,rest,m,a,b,d.gx h⟩
 · exact f
end
theorem PT.Hk (f:Nat→Option ai):∀ n:Nat,∃ t:PT,∀ i,PT.get dep t i=if i<n then f i else none:=by
 intro n
 induction n with
 | zero=>exact⟨.nil,fun i=>by simp[PT.get_nil]⟩
 | succ n c=>
   obtain⟨t,d⟩:=c
   refine⟨PT.set dep t n (f n),fun i=>?_⟩
   by_cases hi:i=n
   · subst hi;rw[PT.bn,if_pos (by omega)]
   · rw[PT.rj _ _ _ _ _ (Ne.symm hi),d]
     by_cases h:i<n
     · rw[if_pos h,if_pos (by omega)]
     · rw[if_neg h,if_neg (by omega)]
structure yf (σ : Nat → Nat) (S S2 : af) : Prop where
 get : ∀ id o, S.get id = some o → S2.get (σ id) = some (o.aw σ)
 lim : ∀ id, S.lim ≤ id → S2.lim ≤ σ id
 hi : ∀ k, σ (S.nx + k) = S2.nx + k
 lo : ∀ id, id < S.nx → σ id < S2.nx
theorem Reach.aw {P:Program}{σ:Nat→Nat}(Y:∀ a b,σ a=σ b→a=b){F:ad}{S T:af}{G G2:ad→af→Prop}(C:yf σ S T)(h:Reach P F S G)
  (hG:∀ F' N D,G F' N→yf σ N D→G2 (F'.aw σ) D):Reach P (F.aw σ) T G2:=by
 intro g2 w fr cs0 cs hf hcs hi
 obtain⟨g,hg⟩:∃ g:Gh,g={ ro:=g2.ro,ph:=fun id=>g2.ph (σ id) }:=⟨_,rfl⟩
 have d:iK σ g g2:=by rw[hg];exact⟨rfl,fun _=>rfl⟩
 have V:Inv S g w:=by
  refine⟨fun b c e=>hi.ro b c (by rw[←d.ro];exact e),fun id o e=>?_,fun id v o o' l l' e Q p p' q=>?_,fun id aH=>?_⟩
  · obtain⟨l,a,b,c⟩:=hi.ob (σ id) _ (C.get id o e)
    exact⟨l,by rw[d.ph];exact a,by rw[d.ro];exact b,c.gx d⟩
  · exact Y _ _ (hi.inj (σ id) (σ v) _ _ l l' (C.get _ _ e) (C.get _ _ Q) (by rw[←d.ph];exact p) (by rw[←d.ph];exact p') q)
  · rw[d.ph]
    refine hi.fresh _ ?_
    have:=C.hi (id-S.nx)
    rw[show S.nx+(id-S.nx)=id from by omega] at this
    omega
 obtain⟨F', N,g', w', fr', cs', q,p1,p2,p3,p4,p5,p6,B,p8⟩:=h g w fr cs0 cs (hf.gx d) (hcs.gx d) V
 have hnx:=B.nx
 obtain ⟨r,R,A⟩:∃ r:Nat→Option Nat,(∀ id,(S.nx≤id∨∃ o,S.get id=some o)→r (σ id)=some id)∧∀ a id,r a=some id→a=σ id∧(S.nx≤id∨∃ o,S.get id=some o):=by
  classical
  refine⟨fun a=>if h:∃ id,σ id=a∧(S.nx≤id∨∃ o,S.get id=some o) then some (Classical.choose h) else none,fun id hr=>?_,fun a id e=>?_⟩
  · have W:∃ v,σ v=σ id∧(S.nx≤v∨∃ o,S.get v=some o):=⟨id,rfl,hr⟩
    simp only[dif_pos W]
    exact congrArg some (Y _ _ (Classical.choose_spec W).1)
  · by_cases W:∃ v,σ v=a∧(S.nx≤v∨∃ o,S.get v=some o)
    · simp only[dif_pos W] at e
      have:=Classical.choose_spec W
      simp only[an] at e
      rw[e] at this;exact⟨this.1.symm,this.2⟩
    · simp only[dif_neg W] at e;simp at e
 have hrel:∀ id o,N.get id=some o→(S.nx≤id∨∃ o,S.get id=some o):=by
  intro id o e
  rcases Nat.lt_or_ge id S.nx with u | J
  · cases hx:S.get id with
    | none=>rw[B.dead id u hx] at e;simp at e
    | some o0=>exact .inr ⟨o0,rfl⟩
  · exact .inl J
 obtain⟨n2,hn2⟩:∃ n,n=T.nx+(N.nx-S.nx):=⟨_,rfl⟩
 obtain⟨t,ht⟩:=PT.Hk (fun a=>match r a with | some id=>(N.get id).map (ai.aw σ) | none=>T.get a) n2
 obtain⟨D,E⟩:∃ s:af,s=⟨n2,T.lim,t⟩:=⟨_,rfl⟩
 have Z:∀ a,D.get a=if a<n2 then(match r a with | some id=>(N.get id).map (ai.aw σ) | none=>T.get a) else none:=by
  intro a;rw[E];exact ht a
 have hσ:∀ id,id<N.nx→σ id<n2:=by
  intro id aH
  by_cases hl:id<S.nx
  · have:=C.lo id hl;omega
  · have:=C.hi (id-S.nx)
    rw[show S.nx+(id-S.nx)=id from by omega] at this
    omega
 have get1:∀ id o,N.get id=some o→D.get (σ id)=some (o.aw σ):=by
  intro id o e
  rw[Z,if_pos (hσ id (p6.iZ e)),R id (hrel id o e)]
  simp[e]
 have O:∀ a o,D.get a=some o→(∃ id o', a=σ id∧N.get id=some o' ∧ o=o'.aw σ)∨(r a=none∧T.get a=some o):=by
  intro a o e
  rw[Z] at e
  split at e<;>try (simp at e;done)
  cases I:r a with
  | none=>rw[I] at e;exact .inr ⟨rfl,e⟩
  | some id=>
    rw[I] at e
    simp only at e
    cases M:N.get id with
    | none=>rw[M] at e;simp at e
    | some o' => rw[M] at e;simp at e;exact .inl ⟨id,o', (A a id I).1,M,e.symm⟩
 have hsim:yf σ N D:=by
  refine⟨get1,by rw[B.lim,E];exact C.lim,fun k=>?_,fun id aH=>by rw[E];exact hσ id aH⟩
  have:=C.hi (N.nx-S.nx+k)
  rw[show S.nx+(N.nx-S.nx+k)=N.nx+k from by omega] at this
  rw[this,E];show _=n2+k;omega
 obtain⟨K,i⟩:∃ g:Gh,g={ ro:=g'.ro,ph:=fun a=>match r a with | some id=>g'.ph id | none=>g2.ph a }:=⟨_,rfl⟩
 have X:g'.ro=K.ro:=by rw[i]
 have m:iK σ g' K:=by
  refine⟨X,fun id=>?_⟩
  rw[i]
  simp only
  cases I:r (σ id) with
  | some v=>rw[Y _ _ (A _ _ I).1]
  | none=>
    simp only
    rw[←d.ph]
    rcases Nat.lt_or_ge id S.nx with u | J
    · exact B.qN id u
    · rw[R id (.inl J)] at I;simp at I
 have hle:Gh.le g2 K:=by
  refine⟨fun k c e=>?_,fun a l e=>?_⟩
  · rw[←X];exact B.mJ.ro k c (by rw[d.ro];exact e)
  · cases I:r a with
    | none=>rw[i];simp only[I];exact e
    | some id=>
      rw[i];simp only[I]
      have:=(A a id I).1
      subst this
      exact B.mJ.ph id l (by rw[d.ph];exact e)
 have other:∀ a o l,T.get a=some o→r a=none→g2.ph a=some l→∀ id o', S.get id=some o' → ∀ l', g.ph id=some l' → l'.bO≠l.bO:=by
  intro a o l e H hl id o' Q l' hl' heq
  have:=hi.inj (σ id) a _ o l' l (C.get _ _ Q) e (by rw[←d.ph];exact hl') hl heq
  rw[←this,R id (.inr ⟨o', Q⟩)] at H;simp at H
 have inv' : Inv D K w' := by
  refine⟨fun b c e=>p6.ro b c (by rw[X];exact e),fun a o e=>?_,fun a a' o o' l l' e Q q U M=>?_,fun a H=>?_⟩
  · rcases O a o e with⟨id,o', rfl,Q,rfl⟩ | ⟨H,Q⟩
    · obtain⟨l,x,y,z⟩:=p6.ob id o' Q
      exact⟨l,by rw[←m.ph];exact x,by rw[←X];exact y,z.aw m⟩
    · obtain⟨l,x,y,z⟩:=hi.ob a o Q
      have u:=z.lt
      have hk:w'.heap[l.bO]? = w.heap[l.bO]? := B.gw l.bO u fun id o' l' f1 _ f3=>other a o l Q H x id o' f1 l' f3
      refine⟨l,hle.ph _ _ x,?_,by rw[hk];exact z.mono hle⟩
      cases hr:K.ro l.bO with
      | none=>rfl
      | some c=>
        rcases B.vl l.bO c (by rw[X];exact hr) u with f | ⟨L,o0,l0,f1,f2,f3,f4⟩
        · rw[d.ro,y] at f;simp at f
        · exact absurd f4 (other a o l Q H x L o0 f1 l0 f3)
  ·
    have mix:∀ id a o o' l l', N.get id=some o→T.get a=some o' → r a=none→K.ph (σ id)=some l→K.ph a=some l' → l.bO=l'.bO→False:=by
      intro id a o o' l l' e Q H q U M
      rw[←m.ph] at q
      have U:g2.ph a=some l' := by rw[i] at U;simp only[H] at U;exact U
      obtain⟨l1,x,y,z⟩:=hi.ob a o' Q
      rw[U] at x;simp only[an] at x;subst x
      have u:=z.lt
      rcases Nat.lt_or_ge id S.lim with j | j
      · have e0:S.get id=some o:=by rw[←B.rM id j];exact e
        exact other a o' l' Q H U id o e0 l (by rw[←B.qN id (V.iZ e0)];exact q) M
      · obtain⟨L,o0,l0,f1,f2,f3,f4⟩:=B.own id o l e j q (by rw[M];exact u)
        exact other a o' l' Q H U L o0 f1 l0 f3 (f4.trans M)
    rcases O a o e with⟨id,o1,rfl,e1,rfl⟩ | ⟨H,e1⟩<;>rcases O a' o' Q with⟨v,o2,rfl,e2,rfl⟩ | ⟨ha', e2⟩
    · rw[p6.inj id v o1 o2 l l' e1 e2 (by rw[m.ph];exact q) (by rw[m.ph];exact U) M]
    · exact(mix id a' _ _ l l' e1 e2 ha' q U M).elim
    · exact(mix v a _ _ l' l e2 e1 H U q M.symm).elim
    · have q1:g2.ph a=some l:=by rw[i] at q;simp only[H] at q;exact q
      have q2:g2.ph a' = some l' := by rw[i] at U;simp only[ha'] at U;exact U
      exact hi.inj a a' o o' l l' e1 e2 q1 q2 M
  · have H:n2≤a:=by rw[E] at H;exact H
    cases I:r a with
    | none=>rw[i];simp only[I];exact hi.fresh a (by omega)
    | some id=>
      have:=(A a id I).1
      rw[i];simp only[I]
      refine p6.fresh id ?_
      rcases Nat.lt_or_ge id N.nx with u | J
      · have:=hσ id u;omega
      · exact J
 have ext' : Ext T g2 w D K w' := by
  refine⟨B.size,B.os,B.tape,B.output,fun b M hne=>B.gw b M fun id o l e1 e2 e3=>?_,fun a o l e1 e2 e3 e4=>?_,hle,by rw[E];show T.nx≤n2;omega,by rw[E],fun a H=>?_,fun a H=>?_,fun b c e M=>?_,fun a H e=>?_,B.fz⟩
  · exact hne (σ id) _ l (C.get id o e1) (C.lim id e2) (by rw[←d.ph];exact e3)
  · rcases O a o e1 with⟨id,o1,rfl,f,rfl⟩ | ⟨H,f⟩
    · rcases Nat.lt_or_ge id S.lim with j | j
      · have e0:S.get id=some o1:=by rw[←B.rM id j];exact f
        exact⟨σ id,_,l,C.get _ _ e0,e2,by rw[←d.ph,←B.qN id (V.iZ e0),m.ph];exact e3,rfl⟩
      · obtain⟨L,o0,l0,f1,f2,f3,f4⟩:=B.own id o1 l f j (by rw[m.ph];exact e3) e4
        exact⟨σ L,_,l0,C.get _ _ f1,C.lim L f2,by rw[←d.ph];exact f3,f4⟩
    · exact⟨a,o,l,f,e2,by rw[i] at e3;simp only[H] at e3;exact e3,rfl⟩
  · rw[Z]
    cases I:r a with
    | none=>
      simp only
      split
      · rfl
      · rename_i J
        cases hx:T.get a with
        | none=>rfl
        | some o=>have:=hi.iZ hx;omega
    | some id=>
      simp only
      obtain⟨h1,h2⟩:=A a id I
      have aH:id<S.lim:=by
        rcases Nat.lt_or_ge id S.lim with j | j
        · exact j
        · have:=C.lim id j;omega
      rw[B.rM id aH]
      cases hx:S.get id with
      | some o=>rw[if_pos (by have:=C.lo id (V.iZ hx);omega),h1,C.get id o hx];rfl
      | none=>
        have J:S.nx≤id:=by
         rcases h2 with h2 | ⟨o,h2⟩
         · exact h2
         · rw[hx] at h2;simp at h2
        have ha2:T.get a=none:=by
         cases hy:T.get a with
         | none=>rfl
         | some o=>
           have h3:=hi.iZ hy
           have:=C.hi (id-S.nx)
           rw[show S.nx+(id-S.nx)=id from by omega] at this
           omega
        rw[ha2];simp
  · cases I:r a with
    | none=>rw[i];simp only[I]
    | some id=>
      have:=(A a id I).1
      subst this
      rw[←m.ph,←d.ph]
      refine B.qN id ?_
      rcases Nat.lt_or_ge id S.nx with u | J
      · exact u
      · have:=C.hi (id-S.nx)
        rw[show S.nx+(id-S.nx)=id from by omega] at this
        omega
  · rcases B.vl b c (by rw[X];exact e) M with f | ⟨L,o0,l0,f1,f2,f3,f4⟩
    · exact .inl (by rw[←d.ro];exact f)
    · exact .inr ⟨σ L,_,l0,C.get _ _ f1,C.lim L f2,by rw[←d.ph];exact f3,f4⟩
  · cases M:D.get a with
    | none=>rfl
    | some o=>
      rcases O a o M with⟨id,o1,rfl,f,rfl⟩ | ⟨_,f⟩
      · exfalso
        have aH:id<S.nx:=by
         rcases Nat.lt_or_ge id S.nx with u | J
         · exact u
         · have:=C.hi (id-S.nx)
           rw[show S.nx+(id-S.nx)=id from by omega] at this
           omega
        have hnone:S.get id=none:=by
         cases hx:S.get id with
         | none=>rfl
         | some o=>rw[C.get id o hx] at e;simp at e
        rw[B.dead id aH hnone] at f;simp at f
      · rw[e] at f;simp at f
 refine⟨F'.aw σ,D,K,w', fr', cs', hG _ _ _ q hsim,p1.aw m,p2.aw m,?_,?_,?_,inv', ext', p8⟩
 · cases F;cases F';exact p3
 · cases F;cases F';exact p4
 · cases F;cases F';exact congrArg (Option.map σ) p5
end
end Go.Eng
namespace Go.Eng
noncomputable section
def gI.aw (σ:Nat→Nat):gI→gI
 | .ret v=>.ret (v.aw σ)
 | .th l=>.th (zt σ l)
structure rD (A B : ad) : Prop where
 fn : B.fn = A.fn
 n : B.n = A.n
 mask : B.mask = A.mask
 todo : B.todo = A.todo
 defers : B.defers = A.defers
 mode : B.mode = A.mode
 kind : B.kind = A.kind
 cm : B.cm = A.cm
 round : B.round = A.round
 get : ∀ t v', B.get t = some v' → ∃ v, A.get t = some v ∧ (v' = v ∨ v' = .top)
theorem rD.refl (A:ad):rD A A:=⟨rfl,rfl,rfl,rfl,rfl,rfl,rfl,rfl,rfl,fun _ a e=>⟨a,e,.inl rfl⟩⟩
variable {P : Program} {S : af}
theorem rD.reach {A B:ad}{G:ad→af→Prop}(h:rD A B)(q:Reach P B S G):Reach P A S G:=by
 refine Reach.uF q h.kind h.fn h.round h.cm fun g w fr cs e hi=>⟨fr,w,g,?_,hi,Ext.refl _ _ _,Steps.refl _ _⟩
 refine⟨by rw[h.fn];exact e.fn,by rw[h.n];exact e.size,fun t f i=>?_,by rw[h.todo];exact e.todo,by rw[h.defers];exact e.defers,by rw[h.mode];exact e.mode,by rw[h.kind];exact e.kind,by rw[h.round];exact e.round⟩
 obtain⟨v,a,b⟩:=h.get t f i
 obtain⟨x,c,d⟩:=e.get t v a
 refine⟨x,c,?_⟩
 rcases b with rfl | rfl
 · exact d
 · exact .top
theorem ad.ED (F:ad)(t:Nat)(v:AV)(s:Nat):(F.set t v).get s=if s=t∧Nat.ble (t+1) F.n=true then some v else F.get s:=by
 obtain⟨fn,n,mask,loc,oO,todo,defers,mode,kind,cm,round⟩:=F
 simp only[ad.set]
 cases b:Nat.ble (t+1) n with
 | false=>simp
 | true=>
   simp only[and_true]
   by_cases e:s=t
   · subst e
     rw[if_pos rfl]
     cases a:tb mask s with
     | true=>simp only[ad.get,a,sD]
     | false=>simp only[ad.get,a,fU,Nat.beq_refl]
   · rw[if_neg e]
     cases a:tb mask t with
     | true=>
       simp only[ad.get]
       cases tb mask s with
       | true=>simp only[rk _ _ e]
       | false=>rfl
     | false=>
       simp only[ad.get]
       cases c:tb mask s with
       | true=>rfl
       | false=>simp only[fU];rw[show Nat.beq t s=false from by rw[Bool.eq_false_iff];exact fun q=>e (jj q).symm]
theorem ad.Cd (F:ad)(t:Nat)(v:AV):(F.set t v).fn=F.fn∧(F.set t v).n=F.n∧(F.set t v).mask=F.mask∧(F.set t v).todo=F.todo∧(F.set t v).defers=F.defers∧(F.set t v).mode=F.mode∧(F.set t v).kind=F.kind∧(F.set t v).cm=F.cm∧(F.set t v).round=F.round:=by
 unfold ad.set
 split
 · split<;>exact⟨rfl,rfl,rfl,rfl,rfl,rfl,rfl,rfl,rfl⟩
 · exact⟨rfl,rfl,rfl,rfl,rfl,rfl,rfl,rfl,rfl⟩
theorem rD.set {A B:ad}(h:rD A B)(t:Nat)(v:AV):rD (A.set t v) (B.set t v):=by
 obtain⟨b,a2,a3,a4,a5,c,d,f,a9⟩:=A.Cd t v
 obtain⟨g,i,j,k,l,m,o,p,q⟩:=B.Cd t v
 refine⟨by rw[b,g,h.fn],by rw[a2,i,h.n],by rw[a3,j,h.mask],by rw[a4,k,h.todo],by rw[a5,l,h.defers],by rw[c,m,h.mode],by rw[d,o,h.kind],by rw[f,p,h.cm],by rw[a9,q,h.round],fun s r e=>?_⟩
 rw[ad.ED] at e
 rw[ad.ED,←h.n]
 split at e
 · rename_i a;exact⟨v,by rw[if_pos a],.inl (by simpa using e.symm)⟩
 · rename_i a;rw[if_neg a];exact h.get s r e
theorem rD.put {A B:ad}(h:rD A B)(d:Option Tmp)(v:AV):rD (A.put d v) (B.put d v):=by
 cases d with
 | none=>exact h
 | some t=>exact h.set t v
theorem rD.with {A B:ad}(h:rD A B)(td:List ay)(ds:List fT)(m:cQ):rD { A with todo:=td,defers:=ds,mode:=m } { B with todo:=td,defers:=ds,mode:=m }:=
 ⟨h.fn,h.n,h.mask,rfl,rfl,rfl,h.kind,h.cm,h.round,h.get⟩
theorem rD.back {A B:ad}(h:rD A B)(o:Oper)(all:Array Oper)(rest:List Nat)(k:List ay)(r:gI):rD (A.back o all rest k r) (B.back o all rest k r):=by
 cases r with
 | ret v=>
   have q:=h.put o.dst v
   have:=q.with (.ops all rest::k) (A.put o.dst v).defers (A.put o.dst v).mode
   simp only[ad.back,ad.after]
   rw[show(B.put o.dst v)={ B.put o.dst v with defers:=(A.put o.dst v).defers,mode:=(A.put o.dst v).mode } from by rw[←q.defers,←q.mode]]
   exact this
 | th l=>exact⟨h.fn,h.n,h.mask,h.todo,h.defers,rfl,h.kind,h.cm,h.round,h.get⟩
theorem rD.nB {A B:ad}(h:rD A B)(d l:Nat)(k:List ay)(r:gI):rD (A.nB d l k r) (B.nB d l k r):=by
 cases r with
 | ret v=>exact⟨h.fn,h.n,h.mask,rfl,by simp only[ad.nB];rw[h.defers],h.mode,h.kind,h.cm,h.round,h.get⟩
 | th c=>exact⟨h.fn,h.n,h.mask,rfl,by simp only[ad.nB,ad.Ip];rw[h.defers],rfl,h.kind,h.cm,h.round,h.get⟩
section
variable {σ : Nat → Nat}
theorem O3 (l:List (Nat×AV))(t:Nat)(v:AV):gC σ (up l t v)=up (gC σ l) t (v.aw σ):=by
 induction l with
 | nil=>simp[gC,GB]
 | cons a l b=>
   obtain⟨k,u⟩:=a
   simp only[gC,List.map_cons,CY] at *
   cases Nat.beq k t with
   | true=>rfl
   | false=>simp only[List.map_cons,b]
theorem ad.O4 (F:ad)(t:Nat)(v:AV):(F.set t v).aw σ=(F.aw σ).set t (v.aw σ):=by
 obtain⟨fn,n,mask,loc,oO,todo,defers,mode,kind,cm,round⟩:=F
 simp only[ad.set,ad.aw]
 cases Nat.ble (t+1) n with
 | false=>rfl
 | true=>
   cases tb mask t with
   | true=>simp only[O3]
   | false=>simp only[gC,List.map_cons]
theorem ad.O5 (F:ad)(d:Option Tmp)(v:AV):(F.put d v).aw σ=(F.aw σ).put d (v.aw σ):=by
 cases d with
 | none=>rfl
 | some t=>exact F.O4 t v
theorem ad.EF (F:ad)(o:Oper)(all:Array Oper)(rest:List Nat)(k:List ay)(r:gI):(F.back o all rest k r).aw σ=(F.aw σ).back o all rest (k.map (ay.aw σ)) (r.aw σ):=by
 cases r with
 | ret v=>
   simp only[ad.back,ad.after,gI.aw]
   rw[←ad.O5]
   cases F.put o.dst v
   rfl
 | th l=>cases F;rfl
theorem ad.JL (F:ad)(d l:Nat)(k:List ay)(r:gI):(F.nB d l k r).aw σ=(F.aw σ).nB (σ d) (σ l) (k.map (ay.aw σ)) (r.aw σ):=by
 cases r<;>cases F<;>rfl
theorem Fx (m:cQ)(l:List (AV×Bool)):(vG m l).aw σ=vG (m.aw σ) (zt σ l):=by
 cases m<;>simp[vG,cQ.aw,zt]
theorem Fy (m:cQ):(vF m).aw σ=vF (m.aw σ):=by
 cases m with
 | run=>rfl
 | returning=>rfl
 | panicking l=>
   cases l with
   | nil=>rfl
   | cons a r=>
     obtain⟨v,b⟩:=a
     cases b<;>rfl
theorem yf.set {S S2:af}(c:∀ a b,σ a=σ b→a=b)(h:yf σ S S2)(id:Nat)(o:ai):yf σ (S.set id o) (S2.set (σ id) (o.aw σ)):=by
 refine⟨fun k x e=>?_,h.lim,h.hi,h.lo⟩
 by_cases d:k=id
 · subst d
   rw[af.bn (nf _)] at e ⊢
   simp only[an] at e ⊢;rw[e]
 · rw[af.ar (nf _) d] at e
   rw[af.ar (nf _) (fun q=>d (c _ _ q))]
   exact h.get k x e
theorem JM (id:Nat)(l:List ay):q9 id (l.map (ay.aw σ))=(q9 id l).map (List.map (ay.aw σ)):=by
 induction l with
 | nil=>rfl
 | cons a l b=>
   cases a with
   | inBlock i=>simp only[List.map_cons,ay.aw,q9,b];split<;>rfl
   | _=>simp only[List.map_cons,ay.aw,q9,b]
theorem JN (l:List ay):xz (l.map (ay.aw σ))=xz l:=by
 cases l with
 | nil=>rfl
 | cons a l=>
   cases a with
   | code c=>
     cases c<;>simp only[List.map_cons,ay.aw,xz]
     rename_i b
     rw[JM]
     cases q9 b l<;>rfl
   | _=>rfl
theorem D6.aw (g:∀ a b,σ a=σ b→a=b){id:Nat}{F:ad}{S S2:af}{Q Q2:gI→af→Prop}(i:yf σ S S2)(k:∀ r S S2,Q r S→yf σ S S2→Q2 (r.aw σ) S2)(h:D6 id F S Q):D6 (σ id) (F.aw σ) S2 Q2:=by
 obtain⟨fn,n,mask,loc,oO,todo,defers,mode,kind,cm,round⟩:=F
 obtain⟨a,b⟩:=h
 simp only at a
 subst a
 refine⟨rfl,?_⟩
 rcases b with⟨b,st,j,f,m,mk,env,params,assign,body,c,d,e⟩ | ⟨l,b,c⟩
 · simp only at b
   subst b
   refine .inl ⟨rfl,st,j,f,m,mk,gC σ env,params,assign,body,i.get _ _ c,i.lim _ d,?_⟩
   rcases e with⟨e,o⟩ | ⟨x,e,o⟩
   · simp only at e
     subst e
     exact .inl ⟨rfl,k _ _ _ o (i.set g id _)⟩
   · exact .inr ⟨x,(JN todo).trans e,k _ _ _ o (i.set g id _)⟩
 · simp only at b
   subst b
   exact .inr ⟨zt σ l,rfl,k _ _ _ c i⟩
variable {S2 : af} {v : AV} {cs : List AV}
theorem Dw (b:yf σ S S2)(h:jl S v=some cs):jl S2 (v.aw σ)=some (dE σ cs):=by
 unfold jl at h
 split at h
 · rename_i id i j
   split at h<;>try (simp at h;done)
   rename_i sz es c
   split at h<;>try (simp at h;done)
   rename_i e a
   split at h<;>simp only[an,reduceCtorEq] at h
   rename_i d
   subst h
   rw[gY] at a
   rw[AV.aw]
   simp only[jl,b.get _ _ c,ai.aw,gY,hP,a,Option.map_some,AV.fA,az,d]
   rw[tR,tR,List.map_drop]
 · simp only[an] at h
   subst h
   rw[AV.aw];rfl
 · simp at h
theorem Hl {t:TypeId}(h:ma P t cs=some v):ma P t (dE σ cs)=some (v.aw σ):=by
 unfold ma at h ⊢
 split at h
 · rename_i b
   split at h<;>try (simp at h;done)
   rename_i n c
   split at h<;>simp only[an,reduceCtorEq] at h
   rename_i a
   subst h
   simp only[az,a,AV.aw]
   rw[tR,tR,List.map_take]
 · rename_i b
   rw[gY] at h
   simp only[gY,hP,h,Option.map_some]
 · simp at h
variable {F : ad}
theorem EG (g:yf σ S S2):∀ {b:List ResultVar} {l:List AV},s7 P F S b=some l→s7 P (F.aw σ) S2 b=some (dE σ l):=by
 intro b
 induction b with
 | nil=>intro l h;simp only[s7,an] at h;subst h;rfl
 | cons r b f=>
   intro l h
   cases r with
   | tmp t=>
     simp only[s7] at h
     split at h<;>try (simp at h;done)
     rename_i v c
     split at h<;>simp only[an,reduceCtorEq] at h
     rename_i l' d
     subst h
     simp only[s7,ad.zi,c,Option.map_some,f d,dE]
   | cell a t=>
     simp only[s7] at h
     split at h<;>try (simp at h;done)
     rename_i p i
     split at h<;>try (simp at h;done)
     rename_i cs e
     split at h<;>try (simp at h;done)
     rename_i v c
     split at h<;>simp only[an,reduceCtorEq] at h
     rename_i l' d
     subst h
     simp only[s7,ad.zi,i,Option.map_some,Dw g e,Hl c,f d,dE]
theorem xh {fn:Func}(e:yf σ S S2)(h:rP P fn F S=some v):rP P fn (F.aw σ) S2=some (v.aw σ):=by
 unfold rP at h ⊢
 split at h
 · rename_i f c
   simp only[an] at h
   subst h
   rw[EG e c]
   rfl
 · rename_i l d c
   simp only[an] at h
   subst h
   rw[EG e c,AV.aw]
   cases l with
   | nil=>rfl
   | cons a r=>
     cases r with
     | nil=>exact absurd rfl (d a)
     | cons b r=>rfl
 · simp at h
inductive ss (σ : Nat → Nat) : cu → cu → Prop
 | nil : ss σ .nil .nil
 | call {fn : Func} {F2 F : ad} {o : Oper} {all : Array Oper} {rest : List Nat} {td2 td : List ay} {next2 next : cu} (hf : rD F2 (F.aw σ)) (ht : td2 = td.map (ay.aw σ)) (hn : ss σ next2 next) :
  ss σ (.call fn F2 o all rest td2 next2) (.call fn F o all rest td next)
 | pY {fn : Func} {F2 F : ad} {ds2 ds : List fT} {next2 next : cu} (hf : rD F2 (F.aw σ)) (ht : ds2 = ds.map (fT.aw σ)) (hn : ss σ next2 next) :
  ss σ (.pY fn F2 ds2 next2) (.pY fn F ds next)
 | loop {fn : Func} {F2 F : ad} {d2 l2 d l : Nat} {td2 td : List ay} {next2 next : cu} (hf : rD F2 (F.aw σ)) (ht : td2 = td.map (ay.aw σ)) (hd : d2 = σ d) (hl : l2 = σ l) (hn : ss σ next2 next) :
  ss σ (.loop fn F2 d2 l2 td2 next2) (.loop fn F d l td next)
 | round {fn : Func} {F2 F : ad} {o : Oper} {all : Array Oper} {rest : List Nat} {td2 td : List ay} {id2 id : Nat} {next2 next : cu} (hf : rD F2 (F.aw σ)) (ht : td2 = td.map (ay.aw σ)) (hd : id2 = σ id) (hn : ss σ next2 next) :
  ss σ (.round fn F2 o all rest td2 id2 next2) (.round fn F o all rest td id next)
 | hole {G2 G : ad → af → Prop} (h : ∀ F S S2, G F S → yf σ S S2 → G2 (F.aw σ) S2) : ss σ (.hole G2) (.hole G)
theorem GK.aw {P:Program}(g:∀ a b,σ a=σ b→a=b){k2 k:cu}(s:ss σ k2 k){fn:Func}{Q Q2:gI→cQ→af→Prop}(i:∀ r cm S S2,Q r cm S→yf σ S S2→Q2 (r.aw σ) (cm.aw σ) S2){F:ad}{S S2:af}(e:yf σ S S2)
   (h:GK P k fn Q F S):GK P k2 fn Q2 (F.aw σ) S2:=by
 have fin:Fin P fn Q F S→Fin P fn Q2 (F.aw σ) S2:=by
   rintro⟨a,b⟩
   obtain⟨f,n,mask,loc,oO,todo,defers,mode,kind,cm,round⟩:=F
   simp only at a b
   subst a
   refine⟨rfl,?_⟩
   rcases b with⟨b,v,c,d⟩ | ⟨l,b,c⟩
   · subst b
     exact .inl ⟨rfl,v.aw σ,xh e c,i _ _ _ _ d e⟩
   · subst b
     exact .inr ⟨zt σ l,rfl,i _ _ _ _ c e⟩
 cases s with
 | nil=>exact fin h
 | call j m o=>exact fin h
 | pY j m o=>exact fin h
 | loop j m p u o=>exact fin h
 | round j m p o=>
   subst p
   exact D6.aw (Q2:=fun r S=>Q2 r .run S) g e (fun r S S2 q e=>i r .run S S2 q e) h
 | hole t=>exact t _ _ _ h e
theorem fh.aw {P:Program}{Qf x:gI→af→Prop}(f:∀ a b,σ a=σ b→a=b)(D:∀ r S S2,Qf r S→yf σ S S2→x (r.aw σ) S2):∀ {k2 k:cu},ss σ k2 k→∀ {A m:(gI→cQ→af→Prop)→Prop},
   (∀ Q Q2:gI→cQ→af→Prop,(∀ r cm S S2,Q r cm S→yf σ S S2→Q2 (r.aw σ) (cm.aw σ) S2)→A Q→m Q2)→fh P Qf k A→fh P x k2 m:=by
 intro k2 k E
 induction E with
 | nil=>intro A m i h;exact i _ _ (fun r cm S S2 q j=>D r S S2 q j) h
 | hole J=>intro A m i h;exact i _ _ (fun _ _ _ _ q _=>q.elim) h
 | @call fn z F o all rest y td c next n p s t=>
   intro A m i h
   refine t (fun Q Q2 u q=>i _ _ (fun r cm S S2 q j=>?_) q) h
   subst p
   have:=Reach.aw f j q (G2:=GK P c fn Q2) fun _ _ _ w g=>GK.aw f s u g w
   rw[ad.EF] at this
   exact(n.back o all rest _ _).reach this
 | @pY fn z F H ds c next n p s t=>
   intro A m i h
   refine t (fun Q Q2 u q=>i _ _ (fun r cm S S2 q j=>?_) q) h
   subst p
   have:=Reach.aw f j q (G2:=GK P c fn Q2) fun _ _ _ w g=>GK.aw f s u g w
   have e:({ F with defers:=ds,mode:=ia r cm }:ad).aw σ={ F.aw σ with todo:=(F.aw σ).todo,defers:=ds.map (fT.aw σ),mode:=ia (r.aw σ) (cm.aw σ) }:=by
    cases F
    cases r with
    | ret v=>simp only[ad.aw,ia,gI.aw,Fy]
    | th l=>simp only[ad.aw,ia,gI.aw,Fx]
   rw[e] at this
   have B:=n.with (F.aw σ).todo (ds.map (fT.aw σ)) (ia (r.aw σ) (cm.aw σ))
   rw[n.todo] at B this
   exact B.reach this
 | @loop fn z F K l2 d l y td c next n p C G s t=>
   intro A m i h
   refine t (fun Q Q2 u q=>i _ _ (fun r cm S S2 q j=>?_) q) h
   subst p C G
   have:=Reach.aw f j q (G2:=GK P c fn Q2) fun _ _ _ w g=>GK.aw f s u g w
   rw[ad.JL] at this
   exact(n.nB _ _ _ _).reach this
 | @round fn z F o all rest y td I id c next n p C s t=>
   intro A m i h
   refine t (fun Q Q2 u q=>i _ _ (fun r cm S S2 q j=>?_) q) h
   subst p
   have:=Reach.aw f j q (G2:=GK P c fn Q2) fun _ _ _ w g=>GK.aw f s u g w
   rw[ad.EF] at this
   exact(n.back o all rest _ _).reach this
theorem aA.aw {P:Program}{Qf d:gI→af→Prop}(c:∀ a b,σ a=σ b→a=b)(i:∀ r S S2,Qf r S→yf σ S S2→d (r.aw σ) S2){fn:Func}{f F:ad}{S2 S:af}{k2 k:cu}(g:ss σ k2 k)(j:rD f (F.aw σ))(l:yf σ S S2)
  (h:aA P Qf (.run fn F S k)):aA P d (.run fn f S2 k2):=
 fh.aw c i g (fun _ _ m q=>j.reach (Reach.aw c l q fun _ _ _ n e=>GK.aw c g m e n)) h
end
end
end Go.Eng
namespace Go.Eng
noncomputable section
def ab (T:FT)(P:Program):Nat→St→St
 | 0,s=>s
 | n+1,s=>ab T P n (s.step T P)
def Km (P:Program)(s:St):Option AV:=
 match cO s with
 | some o=>match gE o.op with
   | none=>match s with
     | .run _ F _ _=>pop P F.eval o.op
     | .e9 D _=>pop P D.F.eval o.op
     | _=>none
   | some _=>none
 | none=>none
def No (P:Program)(s:St):Option cJ:=
 match s with
 | .run fn F S k=>match cO (.run fn F S k) with
   | some o=>match gE o.op,bG o.op with
     | none,false=>yl P F.eval S o.op
     | _,_=>none
   | none=>none
 | _=>none
def Kn (T:FT)(P:Program)(s:St):Option (Nat×List AV):=
 match cO s with
 | some o=>match gE o.op with
   | some c=>match s with
     | .run _ F _ _=>match ql T F c P with
       | some (g,_,args)=>some (g,args)
       | none=>none
     | .e9 D _=>match ql T D.F c P with
       | some (g,_,args)=>some (g,args)
       | none=>none
     | _=>none
   | none=>none
 | none=>none
def iY : St→af
 | .run _ _ S _=>S
 | _=>af.empty
section
variable {T : FT} {P : Program} {Qf : gI → af → Prop}
variable {s : St}
theorem rX {o:Oper}(h:cO s=some o):zr s o.dst=true:=by
 unfold zr
 rw[h]
 simp only
 cases o.dst with
 | none=>rfl
 | some t=>exact Nat.beq_refl t
theorem bP (c:cq T P)(b:P.follows .mixedOrders=true):∀(n:Nat) {s:St},aA P Qf (ab T P n s)→aA P Qf s:=by
 intro n
 induction n with
 | zero=>intro s h;exact h
 | succ n d=>intro s h;exact qw c b (d h)
variable {s' : St}
theorem abw (c:cq T P)(b:P.follows .mixedOrders=true)(n:Nat)(h:ab T P n s=s')(q:aA P Qf s'):aA P Qf s:=
 bP c b n (by rw[h];exact q)
variable {v : AV}
theorem O6 (g:cq T P)(h:Km P s=some v)(q:aA P Qf (aF v none s)):aA P Qf s:=by
 unfold Km at h
 cases b:cO s with
 | none=>rw[b] at h;simp at h
 | some o=>
   rw[b] at h
   simp only at h
   cases d:gE o.op with
   | some c=>rw[d] at h;simp at h
   | none=>
     rw[d] at h
     refine sA g (rX b) ?_ q
     cases s with
     | run fn F S k=>
       have e:cO (.run default F S .nil)=some o:=b
       simp only[ym,e,d]
       exact h
     | e9 D k=>
       obtain⟨os,f,_⟩:=u4 b
       simp only[ym,f,d]
       exact h
     | _=>simp at h
theorem P6 (c:cq T P)(b:P.follows .mixedOrders=true)(n:Nat)(o:Option AV)(v:AV)(h:Km P (ab T P n s)=o)(d:o=some v)(q:aA P Qf (aF v none (ab T P n s))):aA P Qf s:=
 bP c b n (O6 c (h.trans d) q)
theorem abx (d:cq T P)(c:P.follows .mixedOrders=true)(n:Nat)(b:Bool)(h:Km P (ab T P n s)=some (.sc (.bool b)))(e:b=true→aA P Qf (aF (.sc (.bool true)) none (ab T P n s)))(f:b=false→aA P Qf (aF (.sc (.bool false)) none (ab T P n s))):aA P Qf s:=by
 refine P6 d c n _ (.sc (.bool b)) h rfl ?_
 cases b with
 | true=>exact e rfl
 | false=>exact f rfl
variable {S' : af}
theorem Ix (i:cq T P)(h:No P s=some (.val v S'))(g:(cO s).bind (·.dst)≠none)(q:aA P Qf (aF v (some S') s)):aA P Qf s:=by
 unfold No at h
 cases s with
 | run fn F S k=>
   simp only at h
   cases b:cO (.run fn F S k) with
   | none=>rw[b] at h;simp at h
   | some o=>
     rw[b] at h g
     simp only at h
     split at h<;>try (simp at h;done)
     rename_i j c
     refine sA i (rX b) ?_ q
     have e:cO (.run default F S .nil)=some o:=b
     simp only[ym,e,j,c]
     cases f:o.dst with
     | none=>simp[f] at g
     | some d=>exact h
 | _=>simp at h
theorem EH (i:cq T P)(h:No P s=some (.skip S'))(g:(cO s).bind (·.dst)=none)(q:aA P Qf (aF (.bM []) (some S') s)):aA P Qf s:=by
 unfold No at h
 cases s with
 | run fn F S k=>
   simp only at h
   cases b:cO (.run fn F S k) with
   | none=>rw[b] at h;simp at h
   | some o=>
     rw[b] at h g
     simp only at h
     split at h<;>try (simp at h;done)
     rename_i j c
     refine sA i (rX b) ?_ q
     have e:cO (.run default F S .nil)=some o:=b
     simp only[ym,e,j,c]
     cases f:o.dst with
     | none=>exact⟨trivial,h⟩
     | some d=>simp[f] at g
 | _=>simp at h
theorem ap7 (c:cq T P)(b:P.follows .mixedOrders=true)(n:Nat)(o:Option cJ)(v:AV)(S' : af)(h:No P (ab T P n s)=o)(d:Nat)(e:(cO (ab T P n s)).bind (·.dst)=some d)(f:o=some (.val v S'))(q:aA P Qf (aF v (some S') (ab T P n s))):aA P Qf s:=
 bP c b n (Ix c (h.trans f) (by rw[e];simp) q)
theorem acw (c:cq T P)(b:P.follows .mixedOrders=true)(n:Nat)(o:Option cJ)(S' : af)(h:No P (ab T P n s)=o)(d:(cO (ab T P n s)).bind (·.dst)=none)(e:o=some (.skip S'))(q:aA P Qf (aF (.bM []) (some S') (ab T P n s))):aA P Qf s:=
 bP c b n (EH c (h.trans e) d q)
theorem O7 (l:cq T P)(e:P.follows .mixedOrders=true)(n:Nat)(g:Nat)(args:List AV)(v:AV)(h:Kn T P (ab T P n s)=some (g,args))(m:∀ S,cL P g args S fun r S' => r=.ret v∧S' = S)(q:aA P Qf (aF v none (ab T P n s))):aA P Qf s:=by
 refine bP l e n ?_
 generalize ab T P n s=s at h q
 unfold Kn at h
 cases d:cO s with
 | none=>rw[d] at h;simp at h
 | some o=>
   rw[d] at h
   simp only at h
   cases b:gE o.op with
   | none=>rw[b] at h;simp at h
   | some c=>
     rw[b] at h
     simp only at h
     refine sA l (rX d) ?_ q
     cases s with
     | run fn F S k=>
       have i:cO (.run default F S .nil)=some o:=d
       simp only at h
       split at h<;>simp only[an,gU,reduceCtorEq] at h
       rename_i f
       obtain⟨rfl,rfl⟩:=h
       simp only[ym,i,b,f]
       exact m
     | e9 D k=>
       obtain⟨os,j,_⟩:=u4 d
       simp only at h
       split at h<;>simp only[an,gU,reduceCtorEq] at h
       rename_i f
       obtain⟨rfl,rfl⟩:=h
       simp only[ym,j,b,f]
       exact m
     | _=>simp at h
theorem vW (l:cq T P)(d:P.follows .mixedOrders=true)(n:Nat)(g:Nat)(args:List AV)(S:af)(v:AV)(S' : af)(h:Kn T P (ab T P n s)=some (g,args))(e:iY (ab T P n s)=S)(m:∃ fn F S k,ab T P n s=.run fn F S k)(p:cL P g args S fun r i=>r=.ret v∧i=S')(q:aA P Qf (aF v (some S') (ab T P n s))):aA P Qf s:=by
 refine bP l d n ?_
 generalize ab T P n s=s at h q e m
 obtain⟨fn,F,S0,k,rfl⟩:=m
 have e:S0=S:=e
 subst e
 unfold Kn at h
 cases f:cO (.run fn F S0 k) with
 | none=>rw[f] at h;simp at h
 | some o=>
   rw[f] at h
   simp only at h
   cases b:gE o.op with
   | none=>rw[b] at h;simp at h
   | some c=>
     rw[b] at h
     simp only at h
     refine sA l (rX f) ?_ q
     have j:cO (.run default F S0 .nil)=some o:=f
     split at h<;>simp only[an,gU,reduceCtorEq] at h
     rename_i t
     obtain⟨rfl,rfl⟩:=h
     simp only[ym,j,b,t]
     exact p
end
def D7 (m:PT):List (Nat×ai)→PT
 | []=>m
 | (id,o)::r=>D7 (PT.set dep m id (some o)) r
def oL (nx:Nat)(l:List (Nat×ai)):af:=⟨nx,0,D7 .nil l⟩
def Ny (p nx:Nat)(l:List (Nat×ai)):af:=⟨nx,p,D7 .nil l⟩
def pick (S:af):List Nat→List (Nat×ai)
 | []=>[]
 | id::r=>match S.get id with
   | some o=>(id,o)::pick S r
   | none=>pick S r
def slotsOf (F:ad):List Nat→List (Nat×AV)
 | []=>[]
 | t::r=>match F.get t with
   | some v=>(t,v)::slotsOf F r
   | none=>slotsOf F r
def hU (F:ad)(l:List (Nat×AV)):ad:=
 match F with
 | ⟨fn,n,mask,_,_,todo,defers,mode,kind,cm,round⟩=>⟨fn,n,mask,l,l,todo,defers,mode,kind,cm,round⟩
def vA : cu→List (List (Nat×AV))→cu
 | .call fn F o all rest td next,l::ls=>.call fn (hU F l) o all rest td (vA next ls)
 | .pY fn F ds next,l::ls=>.pY fn (hU F l) ds (vA next ls)
 | .loop fn F d i td next,l::ls=>.loop fn (hU F l) d i td (vA next ls)
 | .round fn F o all rest td id next,l::ls=>.round fn (hU F l) o all rest td id (vA next ls)
 | k,_=>k
def Gn : cu→List (List Nat)→cu
 | .call fn F o all rest td next,l::ls=>.call fn (hU F (slotsOf F l)) o all rest td (Gn next ls)
 | .pY fn F ds next,l::ls=>.pY fn (hU F (slotsOf F l)) ds (Gn next ls)
 | .loop fn F d i td next,l::ls=>.loop fn (hU F (slotsOf F l)) d i td (Gn next ls)
 | .round fn F o all rest td id next,l::ls=>.round fn (hU F (slotsOf F l)) o all rest td id (Gn next ls)
 | k,_=>k
def iJ (s:St)(ls:List (List (Nat×AV)))(S:af):St:=
 match s,ls with
 | .run fn F _ k,l::ls=>.run fn (hU F l) S (vA k ls)
 | _,_=>.bad 70
def qh (b:List (List Nat))(ids:List Nat)(s:St):St:=
 match s,b with
 | .run fn F S k,l::ls=>.run fn (hU F (slotsOf F l)) (Ny S.lim S.nx (pick S ids)) (Gn k ls)
 | _,_=>.bad 71
def tv : cu→Bool
 | .nil=>true
 | .call _ _ _ _ _ _ n=>tv n
 | .pY _ _ _ n=>tv n
 | .loop _ _ _ _ _ n=>tv n
 | .round _ _ _ _ _ _ _ n=>tv n
 | _=>false
def mf : St→Bool
 | .run _ _ _ k=>tv k
 | _=>false
theorem xT {F:ad}:∀ {l:List Nat} {t:Nat} {v:AV},lk (slotsOf F l) t=some v→F.get t=some v:=by
 intro l
 induction l with
 | nil=>intro t v h;simp[slotsOf,nC] at h
 | cons a l d=>
   intro t v h
   simp only[slotsOf] at h
   cases b:F.get a with
   | none=>rw[b] at h;exact d h
   | some u=>
     rw[b] at h
     simp only[fU] at h
     cases c:Nat.beq a t with
     | true=>
       rw[c] at h
       have:a=t:=jj c
       subst this
       simp only[an] at h;subst h;exact b
     | false=>rw[c] at h;exact d h
theorem fV (F:ad)(l:List Nat):rD F (hU F (slotsOf F l)):=by
 cases F
 refine⟨rfl,rfl,rfl,rfl,rfl,rfl,rfl,rfl,rfl,fun t v e=>⟨v,?_,.inl rfl⟩⟩
 simp only[hU,ad.get] at e
 split at e
 · exact xT e
 · exact xT e
mutual
theorem AV.bY : ∀ v:AV,v.aw (fun x=>x)=v
 | .sc v=>by rw[AV.aw]
 | .agg cs=>by rw[AV.aw,pL cs]
 | .dV=>by rw[AV.aw]
 | .ax=>by rw[AV.aw]
 | .lit es=>by rw[AV.aw,pL es]
 | .fa cs=>by rw[AV.aw,pL cs]
 | .ptr id i j=>by rw[AV.aw]
 | .ak id o l=>by rw[AV.aw]
 | .dm id=>by rw[AV.aw]
 | .fn f a b=>by rw[AV.aw,pL a,pL b]
 | .eS t v=>by rw[AV.aw,AV.bY v]
 | .bM c=>by rw[AV.aw,pL c]
 | .nU id=>by rw[AV.aw]
 | .clip v=>by rw[AV.aw,AV.bY v]
 | .top=>by rw[AV.aw]
theorem pL : ∀ l:List AV,dE (fun x=>x) l=l
 | []=>by rw[dE]
 | v::l=>by rw[dE,AV.bY v,pL l]
end
theorem Iy (l:List (Nat×AV)):gC (fun x=>x) l=l:=by
 induction l with
 | nil=>rfl
 | cons a l b=>simp only[gC,List.map_cons,AV.bY] at *;rw[b]
theorem O8 (l:List (AV×Bool)):zt (fun x=>x) l=l:=by
 induction l with
 | nil=>rfl
 | cons a l b=>simp only[zt,List.map_cons,AV.bY] at *;rw[b]
theorem ay.bY (l:List ay):l.map (ay.aw fun x=>x)=l:=by
 induction l with
 | nil=>rfl
 | cons a l b=>rw[List.map_cons,b];cases a<;>rfl
theorem fT.bY (l:List fT):l.map (fT.aw fun x=>x)=l:=by
 induction l with
 | nil=>rfl
 | cons a l b=>rw[List.map_cons,b];cases a<;>simp only[fT.aw,pL]
theorem cQ.bY (m:cQ):m.aw (fun x=>x)=m:=by
 cases m<;>simp only[cQ.aw,O8]
theorem ad.bY (F:ad):F.aw (fun x=>x)=F:=by
 cases F
 simp only[ad.aw,Iy,ay.bY,fT.bY,cQ.bY]
 simp
theorem ai.bY (o:ai):o.aw (fun x=>x)=o:=by
 cases o with
 | arr sz es=>simp only[ai.aw,pL]
 | mp b=>simp only[ai.aw,AV.bY];simp
 | lp st pending fn n mask env params assign body=>simp only[ai.aw,Iy]
 | _=>rfl
theorem ML : ∀ {k:cu} {ls:List (List Nat)},tv k=true→ss (fun x=>x) k (Gn k ls):=by
 intro k
 induction k with
 | nil=>intro ls _;cases ls<;>exact .nil
 | hole G=>intro ls h;simp[tv] at h
 | call fn F o all rest td next b=>
   intro ls h
   cases ls with
   | nil=>exact .call (by rw[ad.bY];exact rD.refl F) (ay.bY td).symm (by have:=b (ls:=[]) h;cases next<;>exact this)
   | cons l ls=>exact .call (by rw[ad.bY];exact fV F l) (ay.bY td).symm (b h)
 | pY fn F ds next b=>
   intro ls h
   cases ls with
   | nil=>exact .pY (by rw[ad.bY];exact rD.refl F) (fT.bY ds).symm (by have:=b (ls:=[]) h;cases next<;>exact this)
   | cons l ls=>exact .pY (by rw[ad.bY];exact fV F l) (fT.bY ds).symm (b h)
 | loop fn F d l td next b=>
   intro ls h
   cases ls with
   | nil=>exact .loop (by rw[ad.bY];exact rD.refl F) (ay.bY td).symm rfl rfl (by have:=b (ls:=[]) h;cases next<;>exact this)
   | cons l ls=>exact .loop (by rw[ad.bY];exact fV F l) (ay.bY td).symm rfl rfl (b h)
 | round fn F o all rest td id next b=>
   intro ls h
   cases ls with
   | nil=>exact .round (by rw[ad.bY];exact rD.refl F) (ay.bY td).symm rfl (by have:=b (ls:=[]) h;cases next<;>exact this)
   | cons l ls=>exact .round (by rw[ad.bY];exact fV F l) (ay.bY td).symm rfl (b h)
 | e9 D o os E e aH c next b=>intro ls h;simp[tv] at h
theorem MM : ∀(l:List (Nat×ai)) (m:PT) (id:Nat) (o:ai),PT.get dep (D7 m l) id=some o→(id,o)∈l∨PT.get dep m id=some o:=by
 intro l
 induction l with
 | nil=>intro m id o h;exact .inr h
 | cons a l b=>
   intro m id o h
   obtain⟨i,x⟩:=a
   rcases b _ id o h with q | q
   · exact .inl (tf _ q)
   · by_cases e:i=id
     · subst e
       rw[PT.bn] at q
       simp only[an] at q
       subst q
       exact .inl (List.mem_cons_self ..)
     · rw[PT.rj _ _ _ _ _ e] at q;exact .inr q
theorem vL {nx:Nat}{l:List (Nat×ai)}{id:Nat}{o:ai}(h:(oL nx l).get id=some o):(id,o)∈l:=by
 rcases MM l .nil id o h with q | q
 · exact q
 · rw[PT.get_nil] at q;simp at q
theorem EI {S:af}:∀ {ids:List Nat} {id:Nat} {o:ai},(id,o)∈pick S ids→S.get id=some o:=by
 intro ids
 induction ids with
 | nil=>intro id o h;simp[pick] at h
 | cons a l b=>
   intro id o h
   simp only[pick] at h
   split at h
   · rename_i x hx
     rcases List.mem_cons.1 h with e | e
     · simp only[gU] at e;obtain⟨rfl,rfl⟩:=e;exact hx
     · exact b e
   · exact b h
def tM (a:Nat)(Qf:gI→af→Prop):Prop:=∀ σ:Nat→Nat,(∀ x y,σ x=σ y→x=y)→(∀ i,i<a→σ i=i)→∀ r S b,Qf r S→yf σ S b→Qf (r.aw σ) b
section
variable {T : FT} {P : Program} {Qf : gI → af → Prop}
variable {s : St} {a : Nat}
theorem aA.cut (f:tM a Qf){c:List (List Nat)}{ids:List Nat}(d:mf s=true)(h:aA P Qf (qh c ids s)):aA P Qf s:=by
 cases s with
 | run fn F S k=>
   cases c with
   | nil=>exact h.elim
   | cons l ls=>
     simp only[qh] at h
     refine aA.aw (σ:=fun x=>x) (fun a b e=>e) (fun r S g q i=>f _ (fun a b e=>e) (fun _ _=>rfl) r S g q i) (ML d) (by rw[ad.bY];exact fV F l) ?_ h
     exact⟨fun id o e=>by rw[ai.bY];exact EI (vL (nx:=S.nx) e),fun id h=>h,fun k=>rfl,fun id aH=>aH⟩
 | _=>simp[mf] at d
variable {s' : St}
theorem CN (c:cq T P)(b:P.follows .mixedOrders=true)(d:tM a Qf)(n:Nat)(e:List (List Nat))(ids:List Nat)(f:mf (ab T P n s)=true)(h:qh e ids (ab T P n s)=s')(q:aA P Qf s'):aA P Qf s:=
 bP c b n (aA.cut d f (by rw[h];exact q))
variable {v : AV}
theorem tM.pure (b:∀ σ,v.aw σ=v):tM 0 fun r _=>r=.ret v:=by
 rintro σ _ _ r S c rfl _
 simp only[gI.aw,b]
end
end
end Go.Eng
namespace Go.Eng
noncomputable section
def jR : List (Nat×Nat)→Nat→Nat→Nat→Nat
 | [],N,nx,i=>match Nat.ble N i with
   | true=>nx+(i-N)
   | false=>i
 | (c,a)::r,N,nx,i=>match Nat.beq c i with
   | true=>a
   | false=>jR r N nx i
def s8 (l:List (Nat×Nat))(N nx:Nat)(_ _:List Nat):Bool:=
 Nat.ble N nx&&l.all (fun p=>Nat.ble (p.1+1) N&&Nat.ble (p.2+1) nx&&(Nat.ble N p.2||(l.map (·.1)).contains p.2))&&decide (l.map (·.2)).Nodup&&decide (l.map (·.1)).Nodup
theorem xi (l:List (Nat×Nat))(N nx i:Nat):(∃ p,p∈l∧p.1=i∧jR l N nx i=p.2)∨((∀ p,p∈l→p.1≠i)∧jR l N nx i=if N≤i then nx+(i-N) else i):=by
 induction l with
 | nil=>
   refine .inr ⟨fun p h=>by simp at h,?_⟩
   simp only[jR]
   split
   · rename_i e;rw[if_pos (ed e)]
   · rename_i e;rw[if_neg (fun q=>by rw[sr q] at e;simp at e)]
 | cons p r d=>
   obtain⟨c,a⟩:=p
   simp only[jR]
   cases b:Nat.beq c i with
   | true=>exact .inl ⟨(c,a),List.mem_cons_self .., jj b,rfl⟩
   | false=>
     rcases d with⟨p,h1,h2,h3⟩ | ⟨h1,h2⟩
     · exact .inl ⟨p,tf _ h1,h2,h3⟩
     · refine .inr ⟨fun p f=>?_,h2⟩
       rcases List.mem_cons.1 f with e | e
       · subst e;intro q;simp only at q;rw[q,Nat.beq_refl] at b;simp at b
       · exact h1 p e
variable {l : List (Nat × Nat)} {N nx : Nat}
theorem Ce {cs as:List Nat}(h:s8 l N nx cs as=true):N≤nx∧∀ i,(jR l N nx i=i∧i<N)∨(N≤i∧jR l N nx i=nx+(i-N))∨(i<N∧True∧jR l N nx i<nx):=by
 simp only[s8,Bool.and_eq_true,List.all_eq_true] at h
 obtain⟨⟨⟨h1,h2⟩,_⟩,_⟩:=h
 have h1:=ed h1
 refine⟨h1,fun i=>?_⟩
 rcases xi l N nx i with⟨p,d,e,f⟩ | ⟨d,e⟩
 · obtain⟨⟨a,b⟩,_⟩:=h2 p d
   have a:=ed a
   have b:=ed b
   exact .inr (.inr ⟨by omega,trivial,by omega⟩)
 · rw[e]
   by_cases hi:N≤i
   · rw[if_pos hi];exact .inr (.inl ⟨hi,rfl⟩)
   · rw[if_neg hi];exact .inl ⟨rfl,by omega⟩
theorem tS (h:s8 l N nx [] []=true):∀ x y,jR l N nx x=jR l N nx y→x=y:=by
 simp only[s8,Bool.and_eq_true,List.all_eq_true,decide_eq_true_eq] at h
 obtain⟨⟨⟨h1,h2⟩,h3⟩,h4⟩:=h
 have h1:=ed h1
 have mix:∀ p y,p∈l→(∀ q,q∈l→q.1≠y)→p.2=(if N≤y then nx+(y-N) else y)→False:=by
   intro p y u v e
   obtain⟨⟨_,b⟩,c⟩:=h2 p u
   have b:=ed b
   by_cases n:N≤y
   · rw[if_pos n] at e;omega
   · rw[if_neg n] at e
     rw[Bool.or_eq_true] at c
     rcases c with c | c
     · have:=ed c;omega
     · have w:p.2∈l.map (·.1):=by simpa using c
       obtain⟨q,z,A⟩:=List.mem_map.1 w
       exact v q z (A.trans e)
 intro x y e
 rcases xi l N nx x with⟨p,d,f,o⟩ | ⟨d,f⟩<;>rcases xi l N nx y with⟨q,g,k,r⟩ | ⟨g,k⟩
 · obtain⟨i,hi⟩:=List.getElem?_of_mem d
   obtain⟨j,m⟩:=List.getElem?_of_mem g
   have t:(l.map (·.2))[i]? = some p.2:=by rw[List.getElem?_map,hi];rfl
   have B:(l.map (·.2))[j]? = some p.2:=by rw[List.getElem?_map,m,←o,e,r];rfl
   have:=(List.getElem?_inj (List.getElem?_eq_some_iff.1 t).1 h3).1 (t.trans B.symm)
   subst this
   rw[hi] at m
   simp only[an] at m
   rw[←f,←k,m]
 · exact(mix p y d g (by rw[←o,e,k])).elim
 · exact(mix q x g d (by rw[←r,←e,f])).elim
 · rw[f,k] at e
   split at e<;>split at e<;>omega
def CD (σ:Nat→Nat)(F:ad):List ay×List fT×cQ×cQ×Option Nat:=(F.todo.map (ay.aw σ),F.defers.map (fT.aw σ),F.mode.aw σ,F.cm.aw σ,F.round.map σ)
def vB (F:ad):List ay×List fT×cQ×cQ×Option Nat:=(F.todo,F.defers,F.mode,F.cm,F.round)
def zC (σ:Nat→Nat):cu→Prop
 | .nil=>True
 | .call _ F _ _ _ td next=>CD σ F=vB F∧td.map (ay.aw σ)=td∧zC σ next
 | .pY _ F ds next=>CD σ F=vB F∧ds.map (fT.aw σ)=ds∧zC σ next
 | .loop _ F d i td next=>CD σ F=vB F∧td.map (ay.aw σ)=td∧σ d=d∧σ i=i∧zC σ next
 | .round _ F _ _ _ td id next=>CD σ F=vB F∧td.map (ay.aw σ)=td∧σ id=id∧zC σ next
 | _=>False
def Lx (σ:Nat→Nat):St→Prop
 | .run _ F _ k=>CD σ F=vB F∧zC σ k
 | _=>False
def qi : cu→Nat
 | .call _ _ _ _ _ _ n=>qi n+1
 | .pY _ _ _ n=>qi n+1
 | .loop _ _ _ _ _ n=>qi n+1
 | .round _ _ _ _ _ _ _ n=>qi n+1
 | _=>0
def su : St→Nat
 | .run _ _ _ k=>qi k+1
 | _=>0
variable {σ : Nat → Nat}
theorem fW {F:ad}(h:CD σ F=vB F)(l:List (Nat×AV)):(hU F l).aw σ=hU F (gC σ l):=by
 cases F
 simp only[CD,vB,gU] at h
 obtain⟨h1,h2,h3,h4,h5⟩:=h
 simp only[hU,ad.aw,h1,h2,h3,h4,h5]
theorem JO : ∀ {k:cu} {ls:List (List (Nat×AV))},zC σ k→ls.length=qi k→ss σ (vA k (ls.map (gC σ))) (vA k ls):=by
 intro k
 induction k with
 | nil=>intro ls _ b;cases ls<;>exact .nil
 | hole G=>intro ls h;exact h.elim
 | call fn F o all rest td next e=>
   intro ls h b
   cases ls with
   | nil=>simp[qi] at b
   | cons l ls=>exact .call (by rw[fW h.1];exact rD.refl _) h.2.1.symm (e h.2.2 (by simpa [qi] using b))
 | pY fn F ds next e=>
   intro ls h b
   cases ls with
   | nil=>simp[qi] at b
   | cons l ls=>exact .pY (by rw[fW h.1];exact rD.refl _) h.2.1.symm (e h.2.2 (by simpa [qi] using b))
 | loop fn F d i td next e=>
   intro ls h b
   cases ls with
   | nil=>simp[qi] at b
   | cons l ls=>exact .loop (by rw[fW h.1];exact rD.refl _) h.2.1.symm h.2.2.1.symm h.2.2.2.1.symm (e h.2.2.2.2 (by simpa [qi] using b))
 | round fn F o all rest td id next e=>
   intro ls h b
   cases ls with
   | nil=>simp[qi] at b
   | cons l ls=>exact .round (by rw[fW h.1];exact rD.refl _) h.2.1.symm h.2.2.1.symm (e h.2.2.2 (by simpa [qi] using b))
 | e9 D o os E g aH f next e=>intro ls h;exact h.elim
def rN (σ:Nat→Nat)(l:List (Nat×ai)):List (Nat×ai):=l.map fun p=>(σ p.1,p.2.aw σ)
def aY (S:af):List (Nat×ai)→Prop
 | []=>True
 | (id,o)::r=>S.get id=some o∧aY S r
theorem Ap {S:af}:∀ {l:List (Nat×ai)},aY S l→∀ id o,(id,o)∈l→S.get id=some o:=by
 intro l
 induction l with
 | nil=>intro _ id o h;simp at h
 | cons p r b=>
   obtain⟨i,x⟩:=p
   intro h id o d
   rcases List.mem_cons.1 d with e | e
   · simp only[gU] at e;obtain⟨rfl,rfl⟩:=e;exact h.1
   · exact b h.2 id o e
section
variable {T : FT} {P : Program} {Qf : gI → af → Prop}
variable {a : Nat} {c : St} {ls ls2 : List (List (Nat × AV))} {l2 : List (Nat × ai)}
theorem Cf {p:Nat}(n:p≤a)(w:tM a Qf)(b:List (Nat×Nat))(N nx:Nat){l:List (Nat×ai)}(g:s8 b N nx [] []=true)(A:(b.all fun p=>Nat.ble a p.1)=true)(G:a≤N)(v:Lx (jR b N nx) c)(j:ls.length=su c)(m:ls2=ls.map (gC (jR b N nx)))(B:aY (Ny p nx l2) (rN (jR b N nx) l))(h:aA P Qf (iJ c ls (Ny p N l))):aA P Qf (iJ c ls2 (Ny p nx l2)):=by
 cases c with
 | run fn F S0 k=>
   cases ls with
   | nil=>simp[su] at j
   | cons s ls=>
     subst m
     have f:∀ i,i<a→jR b N nx i=i:=by
       intro i hi
       have:∀ l:List (Nat×Nat),(l.all fun p=>Nat.ble a p.1)=true→jR l N nx i=i:=by
         intro l
         induction l with
         | nil => intro _;simp only[jR];split
                  · rename_i e;have:=ed e;omega
                  · rfl
         | cons p r C=>
           intro d
           simp only[List.all_cons,Bool.and_eq_true] at d
           simp only[jR]
           cases D:Nat.beq p.1 i with
           | true=>have:=jj D;have:=ed d.1;omega
           | false=>exact C d.2
       exact this b A
     refine aA.aw (σ:=jR b N nx) (tS g) (fun r S E q m=>w _ (tS g) f r S E q m) (JO v.2 (by simpa [su] using j)) (by rw[fW v.1];exact rD.refl _) ?_ h
     · obtain⟨h0,h1⟩:=Ce g
       refine⟨fun id o e=>?_,fun id aH=>?_,fun k=>?_,fun id aH=>?_⟩
       · refine Ap B (jR b N nx id) (o.aw (jR b N nx)) ?_
         exact List.mem_map.2 ⟨(id,o),vL (nx:=N) e,rfl⟩
       · show p≤jR b N nx id
         have aH:p≤id:=aH
         rcases Nat.lt_or_ge (jR b N nx id) p with t | u
         · have:=tS g _ _ (f _ (Nat.lt_of_lt_of_le t n))
           omega
         · exact u
       · show jR b N nx (N+k)=nx+k
         rcases h1 (N+k) with⟨x,y⟩ | ⟨x,y⟩ | ⟨x,y,z⟩
         · omega
         · rw[y];omega
         · omega
       · have aH:id<N:=aH
         show jR b N nx id<nx
         rcases h1 id with⟨x,y⟩ | ⟨x,y⟩ | ⟨x,y,z⟩<;>omega
 | _=>simp[su] at j;subst j;exact h.elim
theorem EJ (e:tM a Qf)(b:List (Nat×Nat))(N nx:Nat){l:List (Nat×ai)}(f:s8 b N nx [] []=true)(g:(b.all fun p=>Nat.ble a p.1)=true)(d:a≤N)(i:Lx (jR b N nx) c)(j:ls.length=su c)(k:ls2=ls.map (gC (jR b N nx)))(m:aY (oL nx l2) (rN (jR b N nx) l))(h:aA P Qf (iJ c ls (oL N l))):aA P Qf (iJ c ls2 (oL nx l2)):=
 Cf (p:=0) (Nat.zero_le _) e b N nx f g d i j k m h
def D8 (P:Program)(D:rC)(o:Oper):Option cJ:=
 match qP D.F D.ops o,bG o.op,gE o.op,jt (al D.dX o.after.toList) D.es D.S.nx (mP D.S.lim (gF D.F (gX o.op))) with
 | some true,false,none,true=>yl P D.F.eval ⟨D.S.nx,D.S.lim,seen D.S (al D.dX o.after.toList) D.jJ (gF D.F (gX o.op)) .nil⟩ o.op
 | _,_,_,_=>none
def KK (P:Program)(s:St):Option cJ:=
 match s with
 | .e9 D _=>match D.os with
   | o::_=>D8 P D o
   | []=>none
 | _=>none
def I2 (r:cJ)(s:St):St:=
 match s with
 | .e9 D k=>match D.os with
   | o::os=>zA 5 (ti D o os (al D.dX o.after.toList) k ⟨D.S.nx,D.S.lim,seen D.S (al D.dX o.after.toList) D.jJ (gF D.F (gX o.op)) .nil⟩ (mP D.S.lim (gF D.F (gX o.op)))
    (some ⟨D.S.nx,D.S.lim,seen D.S (al D.dX o.after.toList) D.jJ (gF D.F (gX o.op)) .nil⟩) (some r))
   | []=>.bad 5
 | _=>.bad 5
theorem Xv {D:rC}{k:cu}{o:Oper}{os:List Oper}{r:cJ}(g:D.os=o::os)(h:D8 P D o=some r)
   (q:aA P Qf (zA 5 (ti D o os (al D.dX o.after.toList) k ⟨D.S.nx,D.S.lim,seen D.S (al D.dX o.after.toList) D.jJ (gF D.F (gX o.op)) .nil⟩ (mP D.S.lim (gF D.F (gX o.op)))
    (some ⟨D.S.nx,D.S.lim,seen D.S (al D.dX o.after.toList) D.jJ (gF D.F (gX o.op)) .nil⟩) (some r)))):aA P Qf (.e9 D k):=by
 unfold D8 at h
 split at h<;>try (simp at h;done)
 rename_i i d p j
 rw[lU] at h
 have b:∀ {nx lim id ob},(⟨nx,lim,seen D.S (al D.dX o.after.toList) D.jJ (gF D.F (gX o.op)) .nil⟩:af).get id=some ob→id∈gF D.F (gX o.op)∧D.S.get id=some ob∧iu (al D.dX o.after.toList) D.jJ id=true:=by
   intro nx lim id ob e
   have hi:=af.dG e
   rw[af.bK hi] at e
   rcases vV hi e with q | q
   · rw[PT.get_nil] at q;simp at q
   · exact q
 generalize t:seen D.S (al D.dX o.after.toList) D.jJ (gF D.F (gX o.op)) .nil=m at *
 cases h2:ti D o os (al D.dX o.after.toList) k ⟨D.S.nx,D.S.lim,m⟩ (mP D.S.lim (gF D.F (gX o.op))) (some ⟨D.S.nx,D.S.lim,m⟩) (some r) with
 | none=>rw[h2] at q;exact q.elim
 | some s=>
   rw[h2] at q
   exact tw (E:=⟨D.S.nx,D.S.lim,m⟩) g i d (by rw[h];exact h2) rfl (.inl rfl) (fun id ob e=>(b e).2) (fun id ob e n _=>nJ.2 ⟨(b e).1,n⟩) (fun id e=>(nJ.1 e).2) (fun id e f=>nT j id e f) (.inl rfl) (by simpa only[zA] using q)
variable {s : St}
theorem Xw (e:cq T P)(d:P.follows .mixedOrders=true)(n:Nat)(o:Option cJ)(r:cJ)(h:KK P (ab T P n s)=o)(f:o=some r)(q:aA P Qf (I2 r (ab T P n s))):aA P Qf s:=by
 refine bP e d n ?_
 generalize ab T P n s=s at h q
 have h:=h.trans f
 cases s with
 | e9 D k=>
   simp only[KK,I2] at h q
   cases b:D.os with
   | nil=>rw[b] at h;simp at h
   | cons o os=>rw[b] at h q;exact Xv b h q
 | _=>simp[KK] at h
def Ku (T:FT)(P:Program)(s:St):Option (Nat×List AV×af):=
 match s with
 | .e9 D _=>match D.os with
   | o::_=>match gE o.op,qP D.F D.ops o,hidden (al D.dX o.after.toList) D.jJ with
     | some c,some true,some aH=>match ql T D.F c P with
       | some (g,_,args)=>some (g,args,⟨D.S.nx,D.S.nx,iI D.S.m aH⟩)
       | none=>none
     | _,_,_=>none
   | []=>none
 | _=>none
def Ly (v:AV)(b:af)(s:St):St:=
 match s with
 | .e9 D k=>match D.os with
   | o::os=>match hidden (al D.dX o.after.toList) D.jJ with
     | some aH=>.e9 (D.iJ o os ⟨D.S.nx,D.S.nx,iI D.S.m aH⟩ (al D.dX o.after.toList) .quiet v b) k
     | none=>.bad 5
   | []=>.bad 5
 | _=>.bad 5
theorem MN (z:cq T P)(j:P.follows .mixedOrders=true)(n:Nat)(g:Nat)(args:List AV)(E:af)(v:AV)(p:af)(h:Ku T P (ab T P n s)=some (g,args,E))(B:cL P g args E fun r S=>r=.ret v∧S=p)(q:aA P Qf (Ly v p (ab T P n s))):aA P Qf s:=by
 refine bP z j n ?_
 generalize ab T P n s=s at h q
 cases s with
 | e9 D k=>
   simp only[Ku,Ly] at h q
   cases b:D.os with
   | nil=>rw[b] at h;simp at h
   | cons o os=>
     rw[b] at h q
     simp only at h q
     split at h<;>try (simp at h;done)
     rename_i c aH d C hh
     split at h<;>simp only[an,gU,reduceCtorEq] at h
     rename_i G
     obtain⟨rfl,rfl,rfl⟩:=h
     rw[hh] at q
     simp only at q
     obtain⟨M,H⟩:=mh z d G
     have u:=gr d
     refine fh.mono (fun Q q=>?_) q
     refine nZ.step q b (vK ..) (fun R S0 E0 O v0 U A I J=>?_)
     have f:mL P D.ops o D.F.get ⟨D.S.nx,D.S.nx,iI D.S.m aH⟩ v p:=mL.call C u (H _) B
     obtain⟨_,w,x⟩:=A.aH hh
     have t:∀ id ob,(⟨D.S.nx,D.S.nx,iI D.S.m aH⟩:af).get id=some ob→id∉aH∧D.S.get id=some ob:=by
      intro id ob e
      rw[x] at e
      split at e
      · simp at e
      · exact⟨by assumption,e⟩
     have K:=J _ _ _ f rfl fun id ob e=>(t id ob e).2
     rw[Am]
     generalize y:iC p (af.nx ⟨D.S.nx,D.S.nx,iI D.S.m aH⟩) nY [v] []=nw
     have:=A.news I b (ids:=[]) (nw:=nw) (Eo:=some ⟨D.S.nx,D.S.nx,iI D.S.m aH⟩) f K rfl (.inr rfl) (fun id ob e=>⟨(t id ob e).2,w id (t id ob e).1⟩) (fun id ob e L i=>absurd i (Nat.not_lt.2 L)) (fun id e _=>by simp at e) (fun id e _ i=>by simp at e)
      (fun id ob e=>by
       rw[←y] at e
       rcases nI e with q | q
       · simp at q
       · exact q) (.inl rfl)
     exact this
 | _=>simp[Ku] at h
end
end
end Go.Eng
namespace Go.Eng
noncomputable section
variable {α : Type}
def dY (l:List α)(i:Int):Option α:=if 0≤i then l[i.toNat]? else none
def dH (k:IntKind)(n:Int):Bool:=decide (k.wrap n=n)
variable {c : Bool} {x : Option α}
theorem q8 {r:α}(h:(if c then x else none)=some r):c=true∧x=some r:=by
 cases c with
 | true=>exact⟨rfl,h⟩
 | false=>simp at h
theorem bT {β:Type}{f:α→Option β}{r:β}(h:(x>>=f)=some r):∃ a,x=some a∧f a=some r:=by
 cases x with
 | none=>simp at h
 | some a=>exact⟨a,rfl,h⟩
variable {y r : Option α}
theorem yg (e:c=true)(h:(if c then x else y)=r):x=r:=by rw[if_pos e] at h;exact h
theorem yh (e:c=false)(h:(if c then x else y)=r):y=r:=by rw[if_neg (by rw[e];simp)] at h;exact h
variable {k : IntKind}
theorem CO {n:Int}(h:dH k n=true):k.wrap n=n:=of_decide_eq_true h
def dO (k:IntKind)(n:Int):AV:=.sc (.int k n)
def qR (b:Bool):AV:=.sc (.bool b)
def fC (s:ByteArray):AV:=.sc (.string s)
variable {i : Int}
theorem vM {l:List α}{x:α}(h:dY l i=some x):∃ n:Nat,i=n∧l[n]? = some x:=by
 unfold dY at h
 split at h
 · rename_i h0;exact⟨i.toNat,by omega,h⟩
 · simp at h
variable {enc : α → AV}
theorem Xx {P:Program}{t el n:Nat}{xs:List α}{x:α}{cs:List AV}(hx:dY xs i=some x)(h1:P.underlying t=some (.slice el))(h2:oK P el=some n)(b:(enc x).cells=cs)(d:cs.length=n) :
  dh P af.empty t (.lit (xs.map enc)) (.sc (.int k i))=some (.fa cs):=by
 obtain⟨m,rfl,f⟩:=vM hx
 have e:nth (xs.map enc) m=some (enc x):=by rw[gY];simp[f]
 show dh P af.empty t (.lit (xs.map enc)) (.sc (.int k (.ofNat m)))=_
 simp only[dh,h1,h2,e,b,d,Nat.beq_refl]
theorem O9 (enc:α→AV)(l:List α):some (AV.sc (.int .i64 ((l.map enc).length:Nat)))=some (AV.sc (.int .i64 (l.length:Int))):=by rw[List.length_map]
theorem XZ (v:AV)(l:List AV):bF (v::l)=(aq v&&bF l):=by simp only[bF];cases aq v<;>rfl
theorem cC (h:∀ x,aq (enc x)=true)(l:List α):bF (l.map enc)=true:=by
 induction l with
 | nil=>simp[bF]
 | cons a l b=>simp[bF,h,b]
def kT (f:α→AV)(l:List α):AV:=.lit (l.map f)
theorem aO {f:α→AV}(h:∀ x,aq (f x)=true)(l:List α):aq (kT f l)=true:=by simp[kT,aq,cC h]
@[simp] theorem Ys (k:IntKind)(n:Int):aq (dO k n)=true:=by simp[dO,aq]
@[simp] theorem Yt (b:Bool):aq (qR b)=true:=by simp[qR,aq]
@[simp] theorem Yu (s:ByteArray):aq (fC s)=true:=by simp[fC,aq]
mutual
theorem AV.hZ {σ:Nat→Nat}:∀ {v:AV},aq v=true→v.aw σ=v
 | .sc v,_=>by rw[AV.aw]
 | .agg cs,h=>by rw[AV.aw,ju (by simpa [aq] using h)]
 | .dV,_=>by rw[AV.aw]
 | .ax,_=>by rw[AV.aw]
 | .lit es,h=>by rw[AV.aw,ju (by simpa [aq] using h)]
 | .fa cs,h=>by rw[AV.aw,ju (by simpa [aq] using h)]
 | .ptr id i j,h=>by simp[aq] at h
 | .ak id o l,h=>by simp[aq] at h
 | .dm id,h=>by simp[aq] at h
 | .fn f a b,h=>by
   have h:bF a=true∧bF b=true:=by
    simp only[aq] at h
    split at h
    · rename_i e;exact⟨e,h⟩
    · simp at h
   rw[AV.aw,ju h.1,ju h.2]
 | .eS t v,h=>by rw[AV.aw,AV.hZ (v:=v) (by simpa [aq] using h)]
 | .bM d,h=>by rw[AV.aw,ju (by simpa [aq] using h)]
 | .nU id,h=>by simp[aq] at h
 | .clip v,h=>by rw[AV.aw,AV.hZ (v:=v) (by simpa [aq] using h)]
 | .top,_=>by rw[AV.aw]
theorem ju {σ:Nat→Nat}:∀ {l:List AV},bF l=true→dE σ l=l
 | [],_=>by rw[dE]
 | v::l,h=>by
   have h:aq v=true∧bF l=true:=by
    simp only[bF] at h
    split at h
    · rename_i e;exact⟨e,h⟩
    · simp at h
   rw[dE,AV.hZ h.1,ju h.2]
end
inductive Fz (S : af) : AV → AV → Prop
 | pure {v : AV} (h : aq v = true) : Fz S v v
 | ax : Fz S .ax (.lit [])
 | dV : Fz S .dV (.lit [])
 | ak {id len sz : Nat} {es es' : List AV} (hg : S.get id = some (.arr sz es)) (hl : len = es.length) (hs : es'.length = es.length)
  (hc : ∀ (i : Nat) (e e' : AV), es[i]? = some e → es'[i]? = some e' → e'.cells.length = e.cells.length)
  (h : ∀ (i j : Nat) (e e' a a' : AV), es[i]? = some e → es'[i]? = some e' → e.cells[j]? = some a → e'.cells[j]? = some a' → Fz S a a') : Fz S (.ak id 0 len) (.lit es')
 | agg {cs cs' : List AV} (hl : cs'.length = cs.length) (h : ∀ (k : Nat) (a a' : AV), cs[k]? = some a → cs'[k]? = some a' → Fz S a a') : Fz S (.agg cs) (.agg cs')
 | bM {cs cs' : List AV} (hl : cs'.length = cs.length) (h : ∀ (k : Nat) (a a' : AV), cs[k]? = some a → cs'[k]? = some a' → Fz S a a') : Fz S (.bM cs) (.bM cs')
 | eS {t : TypeId} {v v' : AV} (h : Fz S v v') : Fz S (.eS t v) (.eS t v')
variable {S : af} {id len sz : Nat} {es : List AV}
theorem Fz.zD (b:S.get id=some (.arr sz es))(d:len=es.length)(f:bF es=true):Fz S (.ak id 0 len) (.lit es):=
 .ak b d rfl (fun i e g p q=>by rw[p] at q;simp only[an] at q;rw[q]) (fun i j e g a a' p q r s=>by
  rw[p] at q;simp only[an] at q;subst q
  rw[r] at s;simp only[an] at s;subst s
  exact .pure (jL (dS f p) r))
inductive Nz (S : af) : List AV → List AV → Prop
 | nil : Nz S [] []
 | cons {e e' : AV} {l l' : List AV} (h : Fz S e e') (t : Nz S l l') : Nz S (e :: l) (e' :: l')
theorem Fz.uQ {e n:AV}(h:Fz S e n):n.cells.length=e.cells.length∧∀(j:Nat) (a a' : AV),e.cells[j]? = some a→n.cells[j]? = some a' → Fz S a a' := by
 have one:∀ {u f:AV},u.cells=[u]→f.cells=[f]→Fz S u f→f.cells.length=u.cells.length∧∀(j:Nat) (a a' : AV),u.cells[j]? = some a→f.cells[j]? = some a' → Fz S a a' := by
  intro u f h1 h2 p
  rw[h1,h2]
  refine⟨rfl,fun j a a' g m=>?_⟩
  cases j with
  | zero=>simp at g m;subst g;subst m;exact p
  | succ j=>simp at g
 cases h with
 | pure h=>exact⟨rfl,fun j a a' g m=>by rw[g] at m;simp only[an] at m;subst m;exact .pure (jL h g)⟩
 | ax=>exact one rfl rfl .ax
 | dV=>exact one rfl rfl .dV
 | ak a b c d e=>exact one rfl rfl (.ak a b c d e)
 | agg o h=>exact⟨o,h⟩
 | bM o h=>exact one rfl rfl (.bM o h)
 | eS h=>exact one rfl rfl (.eS h)
variable {l l' : List AV}
theorem Nz.spec (h:Nz S l l'):l'.length=l.length∧∀(i:Nat) (e b:AV),l[i]? = some e→l'[i]? = some b→Fz S e b:=by
 induction h with
 | nil=>exact⟨rfl,fun i e b h=>by simp at h⟩
 | cons h t g=>
   refine⟨by simp[g.1],fun i e b d f=>?_⟩
   cases i with
   | zero=>simp at d f;subst d;subst f;exact h
   | succ i=>exact g.2 i e b (by simpa using d) (by simpa using f)
theorem Fz.P7 {es' : List AV}(d:S.get id=some (.arr sz es))(f:len=es.length)(h:Nz S es es'):Fz S (.ak id 0 len) (.lit es'):=
 .ak d f h.spec.1 (fun i e b p q=>(h.spec.2 i e b p q).uQ.1) (fun i j e b a a' p q r s=>(h.spec.2 i e b p q).uQ.2 j a a' r s)
theorem Fz.Pa : Fz S (.agg []) (.agg []):=.agg rfl fun k a a' e=>by simp at e
variable {a a' : AV}
theorem Fz.MO (h:Fz S a a')(t:Fz S (.agg l) (.agg l')):Fz S (.agg (a::l)) (.agg (a' :: l')):=by
 have key:l'.length=l.length∧∀(k:Nat) (a a' : AV),l[k]? = some a→l'[k]? = some a' → Fz S a a' := by
  cases t with
  | pure h=>exact⟨rfl,fun k a a' e d=>by rw[e] at d;simp only[an] at d;subst d;exact .pure (dS (by simpa [aq] using h) e)⟩
  | agg f h=>exact⟨f,h⟩
 refine .agg (by simp[key.1]) fun k b g e d=>?_
 cases k with
 | zero=>simp at e d;subst e;subst d;exact h
 | succ k=>exact key.2 k b g (by simpa using e) (by simpa using d)
theorem Fz.Pb : Fz S (.bM []) (.bM []):=.bM rfl fun k a a' e=>by simp at e
theorem Fz.n5 (h:Fz S a a')(t:Fz S (.bM l) (.bM l')):Fz S (.bM (a::l)) (.bM (a' :: l')):=by
 have key:l'.length=l.length∧∀(k:Nat) (a a' : AV),l[k]? = some a→l'[k]? = some a' → Fz S a a' := by
  cases t with
  | pure h=>exact⟨rfl,fun k a a' e d=>by rw[e] at d;simp only[an] at d;subst d;exact .pure (dS (by simpa [aq] using h) e)⟩
  | bM f h=>exact⟨f,h⟩
 refine .bM (by simp[key.1]) fun k b g e d=>?_
 cases k with
 | zero=>simp at e d;subst e;subst d;exact h
 | succ k=>exact key.2 k b g (by simpa using e) (by simpa using d)
variable {v v' : AV}
theorem Fz.Yv (h:Fz S v v'):v'.cells.length=v.cells.length:=by
 cases h with
 | pure h=>rfl
 | agg b h=>exact b
 | _=>rfl
theorem Fz.aw {σ:Nat→Nat}{S t:af}(w:yf σ S t){v v' : AV}(h:Fz S v v'):Fz t (v.aw σ) (v'.aw σ):=by
 have key:∀ {l:List AV} {k:Nat} {a:AV},(dE σ l)[k]? = some a→∃ b,l[k]? = some b∧a=b.aw σ:=by
   intro l k a e
   rw[hP] at e
   cases u:l[k]? with
   | none=>rw[u] at e;simp at e
   | some b=>rw[u] at e;simp at e;exact⟨b,rfl,e.symm⟩
 induction h with
 | pure h=>rw[AV.hZ h];exact .pure h
 | ax=>rw[AV.aw,AV.aw,dE];exact .ax
 | dV=>rw[AV.aw,AV.aw,dE];exact .dV
 | ak z n o A h d=>
   rw[AV.aw,AV.aw]
   refine .ak (w.get _ _ z) (by rw[az];exact n) (by rw[az,az];exact o) (fun i e B p q=>?_) (fun i j e B a a' p q r s=>?_)
   · obtain⟨b,f,rfl⟩:=key p
     obtain⟨g,m,rfl⟩:=key q
     rw[AV.fA,AV.fA,az,az]
     exact A i b g f m
   · obtain⟨b,f,rfl⟩:=key p
     obtain⟨g,m,rfl⟩:=key q
     rw[AV.fA] at r s
     obtain⟨c,C,rfl⟩:=key r
     obtain⟨c', s', rfl⟩:=key s
     exact d i j b g c c' f m C s'
 | agg n h d=>
   rw[AV.aw,AV.aw]
   refine .agg (by rw[az,az];exact n) fun k a a' p q=>?_
   obtain⟨b,f,rfl⟩:=key p
   obtain⟨g,m,rfl⟩:=key q
   exact d k b g f m
 | bM n h d=>
   rw[AV.aw,AV.aw]
   refine .bM (by rw[az,az];exact n) fun k a a' p q=>?_
   obtain⟨b,f,rfl⟩:=key p
   obtain⟨g,m,rfl⟩:=key q
   exact d k b g f m
 | eS h d=>rw[AV.aw,AV.aw];exact .eS d
theorem Fz.sound {g C:Gh}{w:World}(hi:Inv S g w)(I:Gh.frozen S g w C)(h:Fz S v v'):∀ {x:Value},VR g v x→VR C v' x:=by
 induction h with
 | pure h=>intro x f;exact f.mono I.1
 | ax=>intro x f;cases f;exact .gi
 | dV=>intro x f;cases f;exact .gi
 | ak o n u J h p=>
   intro x f
   cases f with
   | ak K B V=>
     rename_i l
     obtain⟨l', D,W,M⟩:=hi.ob _ _ o
     rw[K] at D;simp only[an] at D;subst D
     obtain⟨c,t,N,X,E,Y,O,Q⟩:=M
     have F:=I.2.2 _ _ l c t (0,0) o K N
     rename_i es es' cap
     subst n
     rw[←u]
     have:VR C (.lit es') (.slice (some ⟨l.bO,l.base+0*l.sz,none⟩) es'.length cap):=by
      refine .lit (sz:=l.sz) F (fun e R=>?_) (by rw[u,E];omega) (by rw[u];exact B) (fun i j e a x m z U=>?_)
      · obtain⟨k,L⟩:=List.getElem?_of_mem R
        have d:k<es.length:=by rw[←u];exact(List.getElem?_eq_some_iff.1 L).1
        have b:es[k]? = some es[k]:=nA d
        rw[J k _ e b L,E]
        exact O _ (List.getElem_mem d)
      · have d:i<es.length:=by rw[←u];exact(List.getElem?_eq_some_iff.1 m).1
        have b:es[i]? = some es[i]:=nA d
        have G:j<es[i].cells.length:=by rw[←J i _ e b m];exact(List.getElem?_eq_some_iff.1 z).1
        have A:es[i].cells[j]? = some es[i].cells[j]:=nA G
        exact p i j _ e _ a b m A z (Q i j _ _ x b A (by rw[←E,←U];congr 1;omega))
     exact this
   | fI=>
     obtain rfl:=List.length_eq_zero_iff.1 (u.trans n.symm)
     exact .gi
 | agg n h p=>
   intro x f
   cases f with
   | agg q hh=>
     refine .agg (by rw[n];exact q) fun k a x m z=>?_
     rename_i cs H xs
     have d:k<cs.length:=by rw[←n];exact(List.getElem?_eq_some_iff.1 m).1
     have b:cs[k]? = some cs[k]:=nA d
     exact p k _ a b m (hh k _ x b z)
 | bM n h p=>
   intro x f
   cases f with
   | bM q hh=>
     refine .bM (by rw[n];exact q) fun k a x m z=>?_
     rename_i cs H xs
     have d:k<cs.length:=by rw[←n];exact(List.getElem?_eq_some_iff.1 m).1
     have b:cs[k]? = some cs[k]:=nA d
     exact p k _ a b m (hh k _ x b z)
 | eS h p=>intro x f;cases f with | eS hh=>exact .eS (p hh)
def wU (s:St):Option AV:=
 match s with
 | .done (.ret v) _=>some v
 | _=>none
section
variable {T : FT} {P : Program} {Qf : gI → af → Prop}
variable {s : St}
theorem Xy (d:cq T P)(b:P.follows .mixedOrders=true)(n:Nat)(h:wU (ab T P n s)=some v)(e:∀ S,Qf (.ret v) S):aA P Qf s:=by
 refine bP d b n ?_
 generalize ab T P n s=s at h
 unfold wU at h
 split at h<;>simp only[an,reduceCtorEq] at h
 subst h
 exact e _
def RQ (v' : AV):gI→af→Prop:=fun r S=>∃ v,r=.ret v∧Fz S v v'
theorem BT (d:aq v' = true):tM 0 (RQ v'):=by
 rintro σ b _ r S f ⟨v,rfl,h⟩ e
 refine⟨v.aw σ,rfl,?_⟩
 have:=h.aw e
 rw[AV.hZ d] at this
 exact this
theorem acx (d:cq T P)(b:P.follows .mixedOrders=true)(n:Nat)(S:af)(h:ab T P n s=.done (.ret v) S)(e:Fz S v v'):aA P (RQ v') s:=
 abw d b n h ⟨v,rfl,e⟩
theorem Pc (d:cq T P)(b:P.follows .mixedOrders=true)(n:Nat)(h:wU (ab T P n s)=some v)(e:aq v=true):aA P (RQ v) s:=
 Xy d b n h fun _=>⟨v,rfl,.pure e⟩
theorem Pd (D:cq T P){f:Nat}{args:List AV}(E:bF args=true)(F:aq v=true)(h:aA P (RQ v) (St.start T f args af.empty))(S:af) :
   cL P f args S fun r n=>r=.ret v∧n=S:=by
 refine cL.frame E F ?_ S
 have h:=tZ D h
 intro g w xs hx hi
 refine(h g w xs hx hi).mono fun e w' ⟨r,n,g', ⟨v0,G,H⟩,j,p,d⟩=>?_
 subst G
 have z:=Gh.gQ p
 have u:∀ id,(⟨n.nx,n.lim,.nil⟩:af).get id=none:=fun id=>vJ _ _ id
 have m:∀ b c,(g'.freeze n w').ro b=some c→g'.ro b=some c∨(∃ t fz,w'.heap[b]? = some (.cells c t fz))∧∃ id o l,n.get id=some o∧g'.ph id=some l∧l.bO=b:=by
   intro b c e
   simp only[Gh.freeze] at e
   split at e
   · rename_i c' I;simp only[an] at e;subst e;exact .inl I
   · split at e
     · rename_i c' t fz hh
       split at e<;>simp only[an,reduceCtorEq] at e
       rename_i A
       subst e;exact .inr ⟨⟨t,fz,hh⟩,A⟩
     · simp at e
 refine⟨.ret v,⟨n.nx,n.lim,.nil⟩,g'.freeze n w', rfl,?_,⟨?_,?_,?_,?_⟩,⟨d.size,d.os,d.tape,d.output,d.gw,?_,Gh.le_trans d.mJ z.1,d.nx,d.lim,?_,d.qN,?_,fun id _ _=>u id,d.fz⟩⟩
 · cases e with
   | returned x=>exact Fz.sound p z H j
   | panicked c=>exact j.elim
   | outgrown=>exact j.elim
 · intro b c e
   rcases m b c e with q | ⟨q,_⟩
   · exact p.ro b c q
   · exact q
 · intro id o e;rw[u] at e;simp at e
 · intro id M o o' l l' e;rw[u] at e;simp at e
 · exact p.fresh
 · intro id o l e;rw[u] at e;simp at e
 · intro id aH;exact absurd aH (Nat.not_lt_zero id)
 · intro b c e B
   rcases m b c e with q | ⟨_,id,o,l,J,K,L⟩
   · exact d.vl b c q B
   · obtain⟨N,o0,O,C,_⟩:=d.own id o l J (Nat.zero_le id) K (by rw[L];exact B)
     rw[af.cS] at C;simp at C
end
end
end Go.Eng
namespace Go.Eng
noncomputable section
def n9 (σ:Nat→Nat):ay→Bool
 | .uE id=>Nat.beq (σ id) id
 | .mN id=>Nat.beq (σ id) id
 | _=>true
def vN (σ:Nat→Nat):fT→Bool
 | .lF id=>Nat.beq (σ id) id
 | .call _ cap args=>bF cap&&bF args
 | .rJ _=>true
def vX : cQ→Bool
 | .panicking _=>false
 | _=>true
def Iz (σ:Nat→Nat):Option Nat→Bool
 | some id=>Nat.beq (σ id) id
 | none=>true
def iE (σ:Nat→Nat)(F:ad):Bool:=F.todo.all (n9 σ)&&F.defers.all (vN σ)&&vX F.mode&&vX F.cm&&Iz σ F.round
def pf (σ:Nat→Nat):cu→Bool
 | .nil=>true
 | .call _ F _ _ _ td next=>iE σ F&&td.all (n9 σ)&&pf σ next
 | .pY _ F ds next=>iE σ F&&ds.all (vN σ)&&pf σ next
 | .loop _ F d i td next=>iE σ F&&td.all (n9 σ)&&Nat.beq (σ d) d&&Nat.beq (σ i) i&&pf σ next
 | .round _ F _ _ _ td id next=>iE σ F&&td.all (n9 σ)&&Nat.beq (σ id) id&&pf σ next
 | _=>false
def vC (σ:Nat→Nat):St→Bool
 | .run _ F _ k=>iE σ F&&pf σ k
 | _=>false
section
variable {σ : Nat → Nat}
theorem kM : ∀ {l:List ay},l.all (n9 σ)=true→l.map (ay.aw σ)=l:=by
 intro l
 induction l with
 | nil=>intro _;rfl
 | cons a l b=>
   intro h
   simp only[List.all_cons,Bool.and_eq_true] at h
   rw[List.map_cons,b h.2]
   cases a with
   | uE id=>simp only[ay.aw];rw[jj h.1]
   | mN id=>simp only[ay.aw];rw[jj h.1]
   | _=>rfl
theorem u5 : ∀ {l:List fT},l.all (vN σ)=true→l.map (fT.aw σ)=l:=by
 intro l
 induction l with
 | nil=>intro _;rfl
 | cons a l b=>
   intro h
   simp only[List.all_cons,Bool.and_eq_true] at h
   rw[List.map_cons,b h.2]
   cases a with
   | lF id=>simp only[fT.aw];rw[jj h.1]
   | rJ bs=>rfl
   | call f cap args=>
     have:=h.1
     simp only[vN,Bool.and_eq_true] at this
     simp only[fT.aw,ju this.1,ju this.2]
theorem xU {m:cQ}(h:vX m=true):m.aw σ=m:=by
 cases m<;>first | rfl | simp[vX] at h
theorem Hm {r:Option Nat}(h:Iz σ r=true):r.map σ=r:=by
 cases r with
 | none=>rfl
 | some id=>simp only[Option.map_some];rw[jj h]
theorem fX {F:ad}(h:iE σ F=true):CD σ F=vB F:=by
 simp only[iE,Bool.and_eq_true] at h
 obtain⟨⟨⟨⟨a,b⟩,c⟩,d⟩,e⟩:=h
 simp only[CD,vB,kM a,u5 b,xU c,xU d,Hm e]
theorem JP : ∀ {k:cu},pf σ k=true→zC σ k:=by
 intro k
 induction k with
 | nil=>intro _;trivial
 | hole G=>intro h;simp[pf] at h
 | call fn F o all rest td next a=>intro h;simp only[pf,Bool.and_eq_true] at h;exact⟨fX h.1.1,kM h.1.2,a h.2⟩
 | pY fn F ds next a=>intro h;simp only[pf,Bool.and_eq_true] at h;exact⟨fX h.1.1,u5 h.1.2,a h.2⟩
 | loop fn F d i td next a=>
   intro h;simp only[pf,Bool.and_eq_true] at h
   exact⟨fX h.1.1.1.1,kM h.1.1.1.2,jj h.1.1.2,jj h.1.2,a h.2⟩
 | round fn F o all rest td id next a=>
   intro h;simp only[pf,Bool.and_eq_true] at h
   exact⟨fX h.1.1.1,kM h.1.1.2,jj h.1.2,a h.2⟩
 | e9 D o os E c aH b next a=>intro h;simp[pf] at h
variable {s : St}
theorem zV (h:vC σ s=true):Lx σ s:=by
 cases s with
 | run fn F S k=>simp only[vC,Bool.and_eq_true] at h;exact⟨fX h.1,JP h.2⟩
 | _=>simp[vC] at h
end
def D9 (n:Nat):List (Nat×ai)→Bool
 | []=>false
 | (k,_)::r=>match Nat.beq k n with
   | true=>true
   | false=>D9 n r
def ko : List (Nat×ai)→Bool
 | []=>true
 | (k,_)::r=>match D9 k r with
   | true=>false
   | false=>ko r
theorem MP : ∀(l:List (Nat×ai)) (m:PT) (id:Nat),D9 id l=false→PT.get dep (D7 m l) id=PT.get dep m id:=by
 intro l
 induction l with
 | nil=>intro m id _;rfl
 | cons a l d=>
   obtain⟨k,o⟩:=a
   intro m id h
   simp only[D9] at h
   split at h
   · simp at h
   · rename_i c
     have b:k≠id:=by rintro rfl;rw[Nat.beq_refl] at c;simp at c
     show PT.get dep (D7 (PT.set dep m k (some o)) l) id=_
     rw[d _ _ h,PT.rj _ _ _ _ _ b]
theorem C6 : ∀(l:List (Nat×ai)) (m:PT),ko l=true→∀ id o,(id,o)∈l→PT.get dep (D7 m l) id=some o:=by
 intro l
 induction l with
 | nil=>intro m _ id o h;simp at h
 | cons a l b=>
   obtain⟨k,x⟩:=a
   intro m h id o c
   simp only[ko] at h
   split at h
   · simp at h
   · rename_i d
     show PT.get dep (D7 (PT.set dep m k (some x)) l) id=some o
     rcases List.mem_cons.1 c with e | e
     · simp only[gU] at e;obtain⟨rfl,rfl⟩:=e
       rw[MP _ _ _ d,PT.bn]
     · exact b _ h id o e
variable {nx : Nat} {l : List (Nat × ai)}
theorem xj (h:ko l=true):aY (oL nx l) l:=by
 have:∀ r:List (Nat×ai),(∀ id o,(id,o)∈r→(id,o)∈l)→aY (oL nx l) r:=by
  intro r
  induction r with
  | nil=>intro _;trivial
  | cons p r b=>
    obtain⟨i,x⟩:=p
    intro a
    exact⟨C6 l .nil h i x (a i x (List.mem_cons_self ..)),b fun id o e=>a id o (tf _ e)⟩
 exact this l fun _ _ e=>e
theorem rf (N nx i:Nat):jR [] N nx i=if N≤i then nx+(i-N) else i:=by
 simp only[jR]
 split
 · rename_i e;rw[if_pos (ed e)]
 · rename_i e;rw[if_neg (fun q=>by rw[sr q] at e;simp at e)]
theorem oc (c a:Nat)(r:List (Nat×Nat))(N nx i:Nat):jR ((c,a)::r) N nx i=if c=i then a else jR r N nx i:=by
 simp only[jR]
 cases b:Nat.beq c i with
 | true=>rw[if_pos (jj b)]
 | false=>rw[if_neg (fun q=>by rw[q,Nat.beq_refl] at b;simp at b)]
theorem fJ {α:Type}{σ:Nat→Nat}{enc:α→AV}(h:∀ x,aq (enc x)=true)(l:List α):dE σ (l.map enc)=l.map enc:=ju (cC h l)
def vo (P:Program)(s:St):Option cJ:=
 match s with
 | .run fn F S k=>No P (.run fn F S k)
 | .e9 D k=>KK P (.e9 D k)
 | _=>none
def eA (s:St):af:=
 match s with
 | .run _ _ S _=>S
 | .e9 D _=>match D.os with
   | o::_=>⟨D.S.nx,D.S.lim,seen D.S (al D.dX o.after.toList) D.jJ (gF D.F (gX o.op)) .nil⟩
   | []=>af.empty
 | _=>af.empty
def KL (r:cJ)(s:St):St:=
 match s with
 | .run fn F S k=>match r with
   | .val v a=>aF v (some a) (.run fn F S k)
   | .skip a=>aF (.bM []) (some a) (.run fn F S k)
   | _=>.bad 72
 | .e9 D k=>I2 r (.e9 D k)
 | _=>.bad 72
def n0 (r:cJ)(s:St):Bool:=
 match r with
 | .val _ _=>((cO s).bind (·.dst)).isSome
 | .skip _ => !((cO s).bind (·.dst)).isSome
 | _=>false
section
variable {T : FT} {P : Program} {Qf : gI → af → Prop}
variable {s : St}
theorem LQ (c:cq T P)(a:P.follows .mixedOrders=true)(n:Nat)(o:Option cJ)(r:cJ)(h:vo P (ab T P n s)=o)(b:n0 r (ab T P n s)=true)(f:o=some r)(q:aA P Qf (KL r (ab T P n s))):aA P Qf s:=by
 refine bP c a n ?_
 generalize ab T P n s=s at h q b
 have h:=h.trans f
 cases s with
 | run fn F S k=>
   simp only[vo] at h
   cases r with
   | val v g=>exact Ix c h (by intro e;simp only[n0,e] at b;simp at b) q
   | skip g=>exact EH c h (by simp only[n0] at b;cases hx:(cO (.run fn F S k)).bind (·.dst) with
    | none=>rfl
    | some d=>rw[hx] at b;simp at b) q
   | _=>simp[n0] at b
 | e9 D k=>
   simp only[vo] at h
   exact Xw c a 0 _ r h rfl q
 | _=>simp[vo] at h
def jG (r:af→cJ)(s:St):St:=KL (r (eA s)) s
def Np : St→af
 | .done _ S=>S
 | _=>af.empty
theorem IA (b:cq T P)(a:P.follows .mixedOrders=true)(n:Nat)(o:af→Option cJ)(r:af→cJ)(h:vo P (ab T P n s)=o (eA (ab T P n s)))(c:n0 (r (eA (ab T P n s))) (ab T P n s)=true)(d:o (eA (ab T P n s))=some (r (eA (ab T P n s))))(q:aA P Qf (jG r (ab T P n s))):aA P Qf s:=LQ b a n _ _ h c d q
variable {v : AV}
theorem Pe (d:cq T P)(a:P.follows .mixedOrders=true)(n:Nat){b:AV}(h:wU (ab T P n s)=some v)(c:Fz (Np (ab T P n s)) v b):aA P (RQ b) s:=by
 refine bP d a n ?_
 generalize ab T P n s=s at h c
 unfold wU at h
 split at h<;>simp only[an,reduceCtorEq] at h
 subst h
 exact⟨_,rfl,c⟩
theorem Xz (c:cq T P)(a:P.follows .mixedOrders=true)(n:Nat)(b:Bool)(h:vo P (ab T P n s)=some (.val (.sc (.bool b)) (eA (ab T P n s))))(d:n0 (.val (.sc (.bool b)) (eA (ab T P n s))) (ab T P n s)=true)(e:b=true→aA P Qf (KL (.val (.sc (.bool true)) (eA (ab T P n s))) (ab T P n s)))(f:b=false→aA P Qf (KL (.val (.sc (.bool false)) (eA (ab T P n s))) (ab T P n s))):aA P Qf s:=by
 refine LQ c a n _ (.val (.sc (.bool b)) (eA (ab T P n s))) h d rfl ?_
 cases b with
 | true=>exact e rfl
 | false=>exact f rfl
theorem acy (g:cq T P)(d:P.follows .mixedOrders=true)(e:tM 0 Qf)(n:Nat)(f:List (List Nat))(ids:List Nat)(a:List (Nat×Nat))(N nx:Nat){c:St}{ls b:List (List (Nat×AV))}{l2:List (Nat×ai)}(k:mf (ab T P n s)=true)(h:qh f ids (ab T P n s)=iJ c b (oL nx l2))(m:s8 a N nx [] []=true)(o:vC (jR a N nx) c=true)(q:Nat.beq ls.length (su c)=true)(u:ko l2=true)(w:b=ls.map (gC (jR a N nx)))(x:l2=rN (jR a N nx) l)(y:aA P Qf (iJ c ls (oL N l))):aA P Qf s:=
 CN g d e n f ids k h (EJ e a N nx m (by
  induction a with
  | nil=>rfl
  | cons p r _=>simp) (Nat.zero_le _) (zV o) (jj q) w (by rw[←x];exact xj u) y)
end
section
variable {P : Program} {α : Type} {enc : α → AV}
variable {n : Nat}
theorem kU (h:∀ x,(enc x).cells.length=n)(a:∀ x,(enc x).cells.all cV=true)(l:List α):sized n (l.map enc)=true:=by
 simp only[sized,List.all_map,List.all_eq_true]
 intro x _
 simp[h x,a x]
variable {S : af}
theorem nQ {ys:List α}(src:AV)(h:src=.lit (ys.map enc)∨∃ id sz,src=.ak id 0 ys.length∧S.get id=some (.arr sz (ys.map enc))):gl S src=some (ys.map enc):=by
 rcases h with rfl | ⟨id,sz,rfl,h⟩
 · rfl
 · have a:Nat.ble ys.length ys.length=true:=sr (Nat.le_refl _)
   simp[gl,pd,h,a]
   rw[←List.length_map (f:=enc),List.take_length]
def A4 (P:Program)(t el sz:Nat):Bool:=
 match P.underlying t,P.info? el,gZ P el with
 | some (.slice a),some i,some z=>Nat.beq a el&&Nat.ble 1 i.size&&Nat.ble i.bytes 4096&&Nat.beq z.cells.length i.size&&z.cells.all cV&&Nat.beq sz i.size
 | _,_,_=>false
def A5 (P:Program)(t:Nat):Bool:=
 match P.underlying t with
 | some (.slice _)=>true
 | _=>false
variable {t el sz : Nat}
theorem nG {P:Program}(h:A4 P t el sz=true):∃ i z,P.underlying t=some (.slice el)∧P.info? el=some i∧gZ P el=some z∧(Nat.ble 1 i.size&&Nat.ble i.bytes 4096&&Nat.beq z.cells.length i.size&&z.cells.all cV&&Nat.beq sz i.size)=true:=by
 unfold A4 at h
 split at h<;>try (simp at h;done)
 rename_i g i z h1 h2 h3
 simp only[Bool.and_eq_true] at h
 obtain⟨⟨⟨⟨⟨a,b⟩,c⟩,d⟩,e⟩,f⟩:=h
 have:=jj a
 subst this
 exact⟨i,z,h1,h2,h3,by simp only[b,c,d,e,f,Bool.and_self]⟩
theorem nH {P:Program}(h:A5 P t=true):∃ el,P.underlying t=some (.slice el):=by
 unfold A5 at h
 split at h
 · exact⟨_,by assumption⟩
 · simp at h
def rK (P:Program)(S:af)(st xt:TypeId)(s x:AV):Option cJ:=fM P S .append [st,xt] [s,x]
variable {st xt id len : Nat} {src : AV}
theorem zj {xs ys:List α}(o:A4 P st el sz=true)(p:A5 P xt=true)(c:∀ x,(enc x).cells.length=sz)(a:∀ x,(enc x).cells.all cV=true)(b:S.get id=some (.arr sz (xs.map enc)))(d:gl S src=some (ys.map enc))(g:len=xs.length)(q:S.nx=nx)(e:(Nat.ble (S.nx+1) 8192&&Nat.ble S.lim S.nx)=true)(r:Nat.ble S.lim id=true)(u:ys≠[])(w:xs.length+ys.length≤1048576):rK P S st xt (.ak id 0 len) src=some (.val (.ak nx 0 (xs++ys).length) ((S.del id).add (.arr sz ((xs++ys).map enc)))):=by
 obtain⟨i,z,A,hi,H,G⟩:=nG o
 obtain⟨I,B⟩:=nH p
 simp only[Bool.and_eq_true] at G e
 obtain⟨⟨⟨⟨h1,h2⟩,h3⟩,h4⟩,h5⟩:=G
 have h5:=jj h5
 subst h5
 subst g
 subst q
 have C:=kU (enc:=enc) c a xs
 have f:=kU (enc:=enc) c a ys
 have h:gl S (.ak id 0 xs.length)=some (xs.map enc):=nQ _ (.inr ⟨id,_,rfl,b⟩)
 cases ys with
 | nil=>exact absurd rfl u
 | cons y ys=>
   simp only[List.map_cons] at d f
   have k:Nat.ble ((xs.map enc).length+(enc y::ys.map enc).length) 1048576=true:=sr (by simpa using w)
   have m:Nat.beq i.size i.size=true:=Nat.beq_refl _
   have D:(S.del id).nx=S.nx:=rfl
   have E:(S.del id).lim=S.lim:=rfl
   have F:w8 S id 0 xs.length i.size (enc y::ys.map enc)=none:=by
    have:Nat.ble (0+xs.length+(enc y::ys.map enc).length) (xs.map enc).length=false:=by
     cases m:Nat.ble (0+xs.length+(enc y::ys.map enc).length) (xs.map enc).length with
     | false=>rfl
     | true=>exfalso;have:=ed m;simp at this;omega
    simp only[w8,b,this,Bool.and_false]
   simp only[rK,fM,jZ,A,B,hi,H,d,f,h1,h2,h3,h4,Bool.and_true,b,h,F,k,C,r,m,eC,D,E,e.1,e.2]
   congr 2
   · simp
   · simp
theorem vO {s:AV}{ys:List α}(g:s=.ax∨s=.dV)(h:A4 P st el sz=true)(k:A5 P xt=true)(d:∀ x,(enc x).cells.length=sz)(a:∀ x,(enc x).cells.all cV=true)(b:gl S src=some (ys.map enc))(m:S.nx=nx)(c:(Nat.ble (S.nx+1) 8192&&Nat.ble S.lim S.nx)=true)(o:ys≠[])(p:ys.length≤1048576):rK P S st xt s src=some (.val (.ak nx 0 ys.length) (S.add (.arr sz (ys.map enc)))):=by
 obtain⟨i,z,q,hi,w,u⟩:=nG h
 obtain⟨A,r⟩:=nH k
 simp only[Bool.and_eq_true] at u c
 obtain⟨⟨⟨⟨h1,h2⟩,h3⟩,h4⟩,h5⟩:=u
 have h5:=jj h5
 subst h5
 subst m
 have e:=kU (enc:=enc) d a ys
 cases ys with
 | nil=>exact absurd rfl o
 | cons y ys=>
   simp only[List.map_cons] at b e
   have f:Nat.ble (enc y::ys.map enc).length 1048576=true:=sr (by simpa using p)
   rcases g with rfl | rfl <;>
   · simp only[rK,fM,jZ,q,r,hi,w,b,e,h1,h2,h3,h4,Bool.and_true,f,eC,c.1,c.2]
     congr 2
     simp
variable {es : List AV}
theorem vY {s:AV}{ys:List α}(b:A4 P st el sz=true)(c:A5 P xt=true)(a:gl S src=some (ys.map enc))(h:ys.isEmpty=true)(k:gl S s=some es)(d:sized sz es=true) :
  rK P S st xt s src=some (.val s S):=by
 obtain⟨i,z,e,hi,m,g⟩:=nG b
 obtain⟨o,f⟩:=nH c
 simp only[Bool.and_eq_true] at g
 obtain⟨⟨⟨⟨h1,h2⟩,h3⟩,h4⟩,h5⟩:=g
 have h5:=jj h5
 subst h5
 have:ys=[]:=List.isEmpty_iff.1 h
 subst this
 simp only[rK,fM,jZ,e,f,hi,m,a,List.map_nil,show sized i.size []=true from rfl,h1,h2,h3,h4,Bool.and_true,k,d]
theorem ux {ys:List α}(h:ys.isEmpty=false):ys≠[]:=by rintro rfl;simp at h
def NA (P:Program)(S:af)(t:TypeId)(a b:AV):Option cJ:=jC S (dh P S t a b)
variable {i : Int}
theorem GN {xs:List α}{x:α}{k:IntKind}(hx:dY xs i=some x)(a:len=xs.length)(h1:P.underlying t=some (.slice el))(h2:oK P el=some n)(b:S.get id=some (.arr n es)) :
  NA P S t (.ak id 0 len) (.sc (.int k i))=some (.val (.ptr id (0+i.toNat) 0) S):=by
 obtain⟨m,rfl,c⟩:=vM hx
 have d:m<xs.length:=(List.getElem?_eq_some_iff.1 c).1
 show jC S (dh P S t (.ak id 0 len) (.sc (.int k (.ofNat m))))=_
 simp only[dh,h1,h2,b,Nat.beq_refl,show Nat.ble (m+1) len=true from sr (by omega),jC]
 rfl
def Ko (P:Program)(S:af)(t:TypeId)(p:AV):Option cJ:=
 match jl S p with
 | some cs=>jC S (ma P t cs)
 | none=>none
variable {v : AV} {j : Nat} {cs : List AV}
theorem XA {xs:List α}{x:α}(hx:dY xs i=some x)(b:S.get id=some (.arr n (xs.map enc)))(a:(enc x).cells=cs)(c:Nat.ble j cs.length=true)(d:ma P t (cs.drop j)=some v) :
  Ko P S t (.ptr id (0+i.toNat) j)=some (.val v S):=by
 obtain⟨m,rfl,f⟩:=vM hx
 have e:nth (xs.map enc) (0+(m:Int).toNat)=some (enc x):=by rw[gY];simp[f]
 simp only[Ko,jl,b,e,a,c,d,jC]
def PG (P:Program)(S:af)(t:TypeId)(p v:AV):Option cJ:=BI (re P S t p v)
theorem XB {m:Nat}{xs:List α}{x x' : α}(hx:dY xs i=some x)(b:S.get id=some (.arr n (xs.map enc)))(a:(enc x).cells=cs)(c:oK P t=some m)(d:(Nat.beq v.cells.length m&&Nat.ble (j+m) cs.length&&v.cells.all cV&&Nat.ble S.lim id)=true)(f:YB (jF cs j v.cells)=enc x') :
  PG P S t (.ptr id (0+i.toNat) j) v=some (.skip (S.set id (.arr n ((xs.set i.toNat x').map enc)))):=by
 obtain⟨q,rfl,g⟩:=vM hx
 have e:nth (xs.map enc) (0+(q:Int).toNat)=some (enc x):=by rw[gY];simp[g]
 simp only[PG,re,b,e,c,a,d,f,BI]
 rw[List.map_set]
 simp
end
end
end Go.Eng
namespace Go.Eng
noncomputable section
structure bL (T : FT) (P : Program) : Prop where
 ok : cq T P
 mix : P.follows .mixedOrders = true
structure SX (P : Program) (Q : gI → af → Prop) (s : St) : Prop where
 out : aA P Q s
mutual
def sM : AV→AV
 | .ax=>.lit []
 | .dV=>.lit []
 | .agg cs=>.agg (rE cs)
 | v=>v
def rE : List AV→List AV
 | []=>[]
 | v::l=>sM v::rE l
end
theorem vZ (l:List AV)(k:Nat):(rE l)[k]? = l[k]?.map sM:=by
 induction l generalizing k with
 | nil=>simp[rE]
 | cons a l c=>cases k<;>simp[rE,c]
theorem mD (l:List AV):(rE l).length=l.length:=by
 induction l with
 | nil=>simp[rE]
 | cons a l c=>simp[rE,c]
theorem VR.sM {g:Gh}{v:AV}{x:Value}(h:VR g v x):VR g (Go.Eng.sM v) x:=by
 induction h with
 | ax=>rw[Go.Eng.sM];exact .gi
 | dV=>rw[Go.Eng.sM];exact .gi
 | agg j _ l=>
   rw[Go.Eng.sM]
   refine .agg (by rw[mD];exact j) fun k a x e m=>?_
   rw[vZ] at e
   rename_i cs xs _
   cases f:cs[k]? with
   | none=>rw[f] at e;simp at e
   | some b=>rw[f] at e;simp at e;subst e;exact l k b x f m
 | sc h=>rw[Go.Eng.sM];exact .sc h;all_goals simp
 | lit a b c d e=>rw[Go.Eng.sM];exact .lit a b c d e;all_goals simp
 | gi=>rw[Go.Eng.sM];exact .gi;all_goals simp
 | fa a b c=>rw[Go.Eng.sM];exact .fa a b c;all_goals simp
 | ptr a=>rw[Go.Eng.sM];exact .ptr a;all_goals simp
 | ak a b c=>rw[Go.Eng.sM];exact .ak a b c;all_goals simp
 | fI a b=>rw[Go.Eng.sM];exact .fI a b;all_goals simp
 | dm a=>rw[Go.Eng.sM];exact .dm a;all_goals simp
 | fn a b c d=>rw[Go.Eng.sM];exact .fn a b c d;all_goals simp
 | eS a=>rw[Go.Eng.sM];exact .eS a;all_goals simp
 | bM a b=>rw[Go.Eng.sM];exact .bM a b;all_goals simp
 | nU a=>rw[Go.Eng.sM];exact .nU a;all_goals simp
 | clip a=>rw[Go.Eng.sM];exact .clip a;all_goals simp
 | top=>exact .top
theorem fe.sM {g:Gh}{l:List AV}{xs:Array Value}(h:fe g l xs):fe g (rE l) xs:=by
 refine⟨by rw[mD];exact h.1,fun k a x e d=>?_⟩
 rw[vZ] at e
 cases c:l[k]? with
 | none=>rw[c] at e;simp at e
 | some b=>rw[c] at e;simp at e;subst e;exact(h.2 k b x c d).sM
def nD (s:ByteArray)(i:Int):Option Int:=if 0≤i then(s[i.toNat]?).map fun b=>(b.toNat:Int) else none
def CE (P:Program)(S:af)(t:TypeId)(a b:AV):Option cJ:=jC S (tO P t a b)
variable {k : IntKind} {i : Int}
theorem kb (h:0≤i):sP (.sc (.int k i))=some i.toNat:=by
 obtain⟨n,rfl⟩:=Int.eq_ofNat_of_zero_le h
 rfl
variable {P : Program} {b : Int}
theorem sB {S:af}{t:Nat}{s:ByteArray}(h:nD s i=some b)(d:P.underlying t=some .string):CE P S t (.sc (.string s)) (.sc (.int k i))=some (.val (.sc (.int .u8 b)) S):=by
 unfold nD at h
 split at h<;>try (simp at h;done)
 rename_i h0
 cases c:s[i.toNat]? with
 | none=>rw[c] at h;simp at h
 | some x=>
   rw[c] at h
   simp only[Option.map_some,an] at h
   subst h
   simp only[CE,tO,d,kb h0,c,jC]
def KN (P : Program) : List Field → List AV → List AV → Option (List Bool)
 | [], _, _ => some []
 | f :: fs, xs, ys => if f.name ≠ "_" ∧ IW P f.type = some false then
    match nth xs f.offset, nth ys f.offset with
    | some (.sc a), some (.sc b) => match NK P f.type a b, KN P fs xs ys with
      | some e, some l => some (e :: l)
      | _, _ => none
    | _, _ => none
   else none
variable {xs ys : List AV}
theorem JQ : ∀ {fs:List Field} {l:List Bool},KN P fs xs ys=some l→Gm P fs xs ys=some (l.all id):=by
 intro fs
 induction fs with
 | nil=>intro l h;simp only[KN,an] at h;subst h;rfl
 | cons f fs c=>
   intro l h
   simp only[KN] at h
   split at h
   · rename_i d
     split at h
     · rename_i a b g j
       split at h<;>simp only[an,reduceCtorEq] at h
       rename_i e l' h1 h2
       subst h
       simp only[Gm,if_pos d,g,j,h1]
       cases e with
       | true=>simp[c h2]
       | false=>simp
     · simp at h
   · simp at h
def Zx (P:Program)(t:TypeId)(xs ys:List AV):Option (List Bool):=
 match P.underlying t with
 | some (.struct fs)=>match P.stoodInHeld t||P.eqGuardType P.depth t with
   | false=>KN P fs.toList xs ys
   | true=>none
 | _=>none
theorem CP {t:TypeId}{l:List Bool}(h:Zx P t xs ys=some l):rO P .eql t (.agg xs) (.agg ys)=some (.sc (.bool (l.all id)))∧rO P .neq t (.agg xs) (.agg ys)=some (.sc (.bool (!(l.all id)))):=by
 unfold Zx at h
 split at h<;>try (simp at h;done)
 rename_i fs c
 split at h<;>try (simp at h;done)
 rename_i d
 simp only[rO,c,d,JQ h,mM,and_self]
def Kp (P:Program)(S:af)(t:TypeId)(a:AV)(lo hi:Option AV):Option cJ:=jC S (ku P S t a lo hi)
section
variable {P : Program} {α : Type} {enc : α → AV} {S : af} {t el n : Nat} {xs : List α}
theorem GO (c:∀ x,(enc x).cells.length=n):(xs.map enc).all (fun e=>Nat.beq e.cells.length n)=true:=by
 simp only[List.all_map,List.all_eq_true]
 intro x _
 simp[c x]
variable {k' : IntKind} {a : Int}
theorem aqP (d:P.underlying t=some (.slice el))(e:oK P el=some n)(c:∀ x,(enc x).cells.length=n)(h:0≤a∧a≤b∧b≤xs.length) :
  Kp P S t (.lit (xs.map enc)) (some (.sc (.int k a))) (some (.sc (.int k' b)))=some (.val (.lit (((xs.take b.toNat).drop a.toNat).map enc)) S):=by
 simp only[Kp,ku,d,e,AU,kb h.1,kb (show 0≤b by omega),GO c,Bool.and_true,
  show Nat.ble a.toNat b.toNat=true from sr (by omega),show Nat.ble b.toNat (xs.map enc).length=true from sr (by simp;omega),jC]
 simp[List.map_take,List.map_drop]
theorem as5 (d:P.underlying t=some (.slice el))(e:oK P el=some n)(c:∀ x,(enc x).cells.length=n)(h:0≤b∧b≤xs.length) :
  Kp P S t (.lit (xs.map enc)) none (some (.sc (.int k' b)))=some (.val (.lit ((xs.take b.toNat).map enc)) S):=by
 simp only[Kp,ku,d,e,AU,kb h.1,GO c,Bool.and_true,show Nat.ble 0 b.toNat=true from sr (by omega),
  show Nat.ble b.toNat (xs.map enc).length=true from sr (by simp;omega),jC]
 simp[List.map_take]
theorem as6 (d:P.underlying t=some (.slice el))(e:oK P el=some n)(c:∀ x,(enc x).cells.length=n)(h:0≤a∧a≤xs.length) :
  Kp P S t (.lit (xs.map enc)) (some (.sc (.int k a))) none=some (.val (.lit ((xs.drop a.toNat).map enc)) S):=by
 simp only[Kp,ku,d,e,AU,kb h.1,GO c,Bool.and_true,show Nat.ble a.toNat (xs.map enc).length=true from sr (by simp;omega),
  show Nat.ble (xs.map enc).length (xs.map enc).length=true from sr (Nat.le_refl _),jC]
 congr 3
 rw[List.take_length,List.map_drop]
def acN (P:Program)(S:af)(t:TypeId)(l c:AV):Option cJ:=xw (mC P S t l c)
def afa (P:Program)(t el sz bytes:Nat)(z0:AV):Prop:=∃ i,P.underlying t=some (.slice el)∧P.info? el=some i∧gZ P el=some z0∧(Nat.beq z0.cells.length i.size&&Nat.ble 1 i.size&&z0.cells.all cV&&Nat.beq sz i.size&&Nat.beq bytes i.bytes)=true
def Er (P:Program)(t sz bytes:Nat):Option (Nat×AV):=
 match P.underlying t with
 | some (.slice el)=>match P.info? el,gZ P el with
   | some i,some z=>match Nat.beq z.cells.length i.size&&Nat.ble 1 i.size&&z.cells.all cV&&Nat.beq sz i.size&&Nat.beq bytes i.bytes with
     | true=>some (el,z)
     | false=>none
   | _,_=>none
 | _=>none
variable {sz bytes : Nat}
theorem Aq {P:Program}{t el:Nat}{z:AV}(h:Er P t sz bytes=some (el,z)):afa P t el sz bytes z:=by
 unfold Er at h
 split at h<;>try (simp at h;done)
 rename_i h1
 split at h<;>try (simp at h;done)
 rename_i i z h2 h3
 split at h<;>simp only[an,gU,reduceCtorEq] at h
 rename_i c
 obtain⟨rfl,rfl⟩:=h
 exact⟨i,h1,h2,h3,c⟩
theorem XC {z0:α}{nx:Nat}(f:Er P t sz bytes=some (el,enc z0))(d:S.nx=nx)(c:(Nat.ble (S.nx+1) 8192&&Nat.ble S.lim S.nx)=true)(h:0≤a∧a.toNat*(bytes+1)≤2 ^ 40) :
  acN P S t (.sc (.int k a)) (.sc (.int k a))=some (.val (.ak nx 0 (List.replicate a.toNat z0).length) (S.add (.arr sz ((List.replicate a.toNat z0).map enc)))):=by
 obtain⟨i,g,hi,j,e⟩:=Aq f
 simp only[Bool.and_eq_true] at e c
 obtain⟨⟨⟨⟨h1,h2⟩,h3⟩,h4⟩,h5⟩:=e
 have h4:=jj h4
 have h5:=jj h5
 subst h4
 subst h5
 subst d
 simp only[acN,mC,kb h.1,g,hi,j,h1,h2,h3,Bool.and_true,show Nat.ble a.toNat a.toNat=true from sr (Nat.le_refl _),show Nat.ble (a.toNat*(i.bytes+1)) (2 ^ 40)=true from sr h.2,eC,c.1,c.2,xw]
 simp
def P8 (k:IntKind)(x:Int×Int):AV:=.agg [.sc (.int k x.1),.sc (.int k x.2)]
@[simp] theorem X0 (k:IntKind)(x:Int×Int):aq (P8 k x)=true:=by simp[P8,aq,bF]
end
section
variable {T : FT} {P : Program} {Q : gI → af → Prop} {w : AV}
variable {s : St}
theorem yn (E:bL T P)(n:Nat)(o:Option AV)(v:AV)(h:Km P (ab T P n s)=o)(c:o=some v)(q:SX P Q (aF v none (ab T P n s))):SX P Q s:=
 ⟨P6 E.ok E.mix n o v h c q.out⟩
theorem NP (E:bL T P)(n:Nat)(b:Bool)(h:Km P (ab T P n s)=some (.sc (.bool b)))(c:b=true→SX P Q (aF (.sc (.bool true)) none (ab T P n s)))(d:b=false→SX P Q (aF (.sc (.bool false)) none (ab T P n s))):SX P Q s:=
 ⟨abx E.ok E.mix n b h (fun e=>(c e).out) fun e=>(d e).out⟩
theorem Ig (E:bL T P)(n:Nat)(o:Option AV)(b:Bool)(h:Km P (ab T P n s)=o)(c:o=some (.sc (.bool b)))(d:b=true→SX P Q (aF (.sc (.bool true)) none (ab T P n s)))(e:b=false→SX P Q (aF (.sc (.bool false)) none (ab T P n s))):SX P Q s:=NP E n b (h.trans c) d e
theorem CQ (E:bL T P)(n:Nat)(g:Nat)(args:List AV)(v:AV)(h:Kn T P (ab T P n s)=some (g,args))(c:∀ S,cL P g args S fun r d=>r=.ret v∧d=S)(q:SX P Q (aF v none (ab T P n s))):SX P Q s:=⟨O7 E.ok E.mix n g args v h c q.out⟩
theorem Pf (E:bL T P)(n:Nat)(g:Nat)(args c:List AV)(v:AV)(h:Kn T P (ab T P n s)=some (g,args))(d:rE args=c)(e:∀ S,cL P g c S fun r f=>r=.ret v∧f=S)(q:SX P Q (aF v none (ab T P n s))):SX P Q s:=CQ E n g args v h (fun S g w xs hx hi=>e S g w xs (by rw[←d];exact hx.sM) hi) q
theorem gO (E:bL T P)(n:Nat)(o:af→Option cJ)(r:af→cJ)(h:vo P (ab T P n s)=o (eA (ab T P n s)))(c:n0 (r (eA (ab T P n s))) (ab T P n s)=true)(d:o (eA (ab T P n s))=some (r (eA (ab T P n s))))(q:SX P Q (jG r (ab T P n s))):SX P Q s:=⟨IA E.ok E.mix n o r h c d q.out⟩
theorem aby (E:bL T P)(n:Nat)(b:Bool)(h:vo P (ab T P n s)=some (.val (.sc (.bool b)) (eA (ab T P n s))))(c:n0 (.val (.sc (.bool b)) (eA (ab T P n s))) (ab T P n s)=true)(d:b=true→SX P Q (jG (fun S=>.val (.sc (.bool true)) S) (ab T P n s)))(f:b=false→SX P Q (jG (fun S=>.val (.sc (.bool false)) S) (ab T P n s))):SX P Q s:=
 ⟨Xz E.ok E.mix n b h c (fun e=>(d e).out) fun e=>(f e).out⟩
theorem LS (E:bL T P)(n:Nat)(h:wU (ab T P n s)=some w)(c:aq w=true):SX P (RQ w) s:=⟨Pc E.ok E.mix n h c⟩
theorem uR (E:bL T P)(n:Nat){v:AV}(h:wU (ab T P n s)=some v)(c:Fz (Np (ab T P n s)) v w):SX P (RQ w) s:=⟨Pe E.ok E.mix n h c⟩
theorem zF (E:bL T P){a:Nat}(d:tM a Q)(n:Nat)(c:List (List Nat))(ids:List Nat){s' : St}(e:mf (ab T P n s)=true)(h:qh c ids (ab T P n s)=s')(q:SX P Q s'):SX P Q s:=
 ⟨CN E.ok E.mix d n c ids e h q.out⟩
theorem GP (E:bL T P){a:Nat}(g:tM a Q)(n:Nat)(j:List (List Nat))(ids:List Nat)(d:List (Nat×Nat))(N nx:Nat){c:St}{ls e:List (List (Nat×AV))}{l l2:List (Nat×ai)}(m:mf (ab T P n s)=true)(h:qh j ids (ab T P n s)=iJ c e (oL nx l2))(f:(s8 d N nx [] []&&d.all (fun p=>Nat.ble a p.1)&&Nat.ble a N)=true)(o:vC (jR d N nx) c=true)(q:Nat.beq ls.length (su c)=true)(r:ko l2=true)(u:e=ls.map (gC (jR d N nx)))(v:l2=rN (jR d N nx) l)(x:SX P Q (iJ c ls (oL N l))):SX P Q s:=by
 simp only[Bool.and_eq_true] at f
 exact⟨CN E.ok E.mix g n j ids m h (EJ g d N nx f.1.1 f.1.2 (ed f.2) (zV o) (jj q) u (by rw[←v];exact xj r) x.out)⟩
theorem zk (E:bL T P){f:Nat}{args:List AV}(c:bF args=true)(d:aq w=true)(h:SX P (RQ w) (St.start T f args af.empty))(S:af) :
 cL P f args S fun r e=>r=.ret w∧e=S:=Pd E.ok c d h.out S
end
end
end Go.Eng
namespace Go.Eng
noncomputable section
def ur : ai→Bool
 | .arr _ es=>bF es
 | _=>false
def pI (S:af):Nat→af
 | 0=>S
 | k+1=>(pI S k).del k
theorem rY (S:af):∀(k id:Nat),(pI S k).get id=if id<k then none else S.get id:=by
 intro k
 induction k with
 | zero=>intro id;simp[pI]
 | succ k b=>
   intro id
   simp only[pI]
   by_cases e:id=k
   · subst e;rw[af.fi,if_pos (by omega)]
   · rw[af.bQ (nf _) e,b]
     by_cases h:id<k
     · rw[if_pos h,if_pos (by omega)]
     · rw[if_neg h,if_neg (by omega)]
theorem od (S:af):∀ k,(pI S k).nx=S.nx∧(pI S k).lim=S.lim:=by
 intro k
 induction k with
 | zero=>exact⟨rfl,rfl⟩
 | succ k b=>exact b
def wV (S:af):List (Nat×ai)→af
 | []=>S
 | (id,o)::r=>(wV S r).set id o
theorem C7 (S:af):∀ l,(wV S l).nx=S.nx∧(wV S l).lim=S.lim:=by
 intro l
 induction l with
 | nil=>exact⟨rfl,rfl⟩
 | cons p l b=>exact b
variable {S : af} {a : Nat}
theorem u6 : ∀ {l:List (Nat×ai)},(∀ p,p∈l→p.1≠a)→(wV S l).get a=S.get a:=by
 intro l
 induction l with
 | nil=>intro _;rfl
 | cons p l b=>
   intro h
   obtain⟨id,o⟩:=p
   simp only[wV]
   rw[af.ar (nf _) (fun e=>h (id,o) (List.mem_cons_self ..) e.symm)]
   exact b fun p c=>h p (tf _ c)
theorem MQ : ∀ {l:List (Nat×ai)},(l.map (·.1)).Nodup→∀ id o,(id,o)∈l→(wV S l).get id=some o:=by
 intro l
 induction l with
 | nil=>intro _ id o h;simp at h
 | cons p l d=>
   intro b id o h
   obtain⟨k,x⟩:=p
   simp only[List.map_cons,List.nodup_cons] at b
   simp only[wV]
   rcases List.mem_cons.1 h with e | e
   · simp only[gU] at e;obtain⟨rfl,rfl⟩:=e
     exact af.bn (nf _)
   · have c:id≠k:=by rintro rfl;exact b.1 (List.mem_map.2 ⟨_,e,rfl⟩)
     rw[af.ar (nf _) c]
     exact d b.2 id o e
variable {o : ai}
theorem rI.pure_mono {g d:Gh}(f:∀ b c,g.ro b=Option.some c→d.ro b=Option.some c){l:Loc}{x:Option Obj}(n:ur o=true)(h:rI g l x o):rI d l x o:=by
 cases o with
 | arr sz es=>
   obtain⟨c,t,h1,h2,h3,h4,h5,h6⟩:=h
   refine⟨c,t,h1,h2,h3,h4,h5,fun i j e a y p q r=>?_⟩
   have m:aq a=true:=jL (dS (by simpa [ur] using n) p) q
   exact VR.mono (g:=g.bare) (g' := d) ⟨f,fun _ _ e=>by simp[Gh.bare] at e⟩ ((h6 i j e a y p q r).bare m)
 | _=>simp[ur] at n
def KO (ids:List Nat)(nx i:Nat):Nat:=
 match ids[i]? with
 | some a=>a
 | none=>nx+i
def BU (S:af):List Nat→List ai→Prop
 | a::r,o::l=>(S.get a=some o∧Nat.ble S.lim a=true)∧BU S r l
 | _,_=>True
theorem Yw (S:af):BU S [] []:=trivial
theorem X1 {r:List Nat}{l:List ai}(h:S.get a=some o)(b:Nat.ble S.lim a=true)(t:BU S r l):BU S (a::r) (o::l):=⟨⟨h,b⟩,t⟩
theorem Hn : ∀ {ids:List Nat} {l:List ai},BU S ids l→∀(i a:Nat) (o:ai),ids[i]? = some a→l[i]? = some o→S.get a=some o∧S.lim≤a:=by
 intro ids
 induction ids with
 | nil=>intro l _ i a o e;simp at e
 | cons b r d=>
   intro l h i a o e c
   cases l with
   | nil=>simp at c
   | cons x l=>
     cases i with
     | zero=>simp at e c;subst e;subst c;exact⟨h.1.1,ed h.1.2⟩
     | succ i=>exact d h.2 i a o (by simpa using e) (by simpa using c)
theorem cL.own {P:Program}{f:FuncId}{args:List AV}{S0:af}{d news:List ai}{v' : AV}(h:cL P f args S0 fun r V=>∃ v,r=.ret v∧Fz (pI V d.length) v v' ∧ ∀(i:Nat) (o:ai),news[i]? = some o→V.get i=some o)
   (h0:∀ i:Nat,S0.get i=d[i]?) (h1:S0.nx=d.length) (h2:S0.lim=0) (hl:news.length=d.length) (hp:d.all ur=true) (hp' : news.all ur=true) (hv:aq v' = true)
   {S:af} {ids:List Nat} (hi:ids.length=d.length) (hn:ids.Nodup) (hS:∀(i a:Nat) (o:ai),ids[i]? = some a→d[i]? = some o→S.get a=some o∧S.lim≤a) :
   cL P f (dE (KO ids S.nx) args) S fun r V=>r=.ret v' ∧ V=wV S (ids.zip news):=by
 intro Y w xs hx A
 obtain⟨σ,hσ⟩:∃ σ,σ=KO ids S.nx:=⟨_,rfl⟩
 rw[←hσ] at hx
 obtain⟨g,hg⟩:∃ g:Gh,g={ ro:=Y.ro,ph:=fun id=>Y.ph (σ id) }:=⟨_,rfl⟩
 have n:iK σ g Y:=by rw[hg];exact⟨rfl,fun _=>rfl⟩
 have E:∀(i a:Nat),ids[i]? = some a→σ i=a:=by intro i a e;rw[hσ];simp[KO,e]
 have K:∀(i:Nat) (o:ai),d[i]? = some o→∃ a,ids[i]? = some a:=by
   intro i o e
   have:i<ids.length:=by rw[hi];exact(List.getElem?_eq_some_iff.1 e).1
   exact⟨_,nA this⟩
 have hinj:∀(i j a:Nat),ids[i]? = some a→ids[j]? = some a→i=j:=by
   intro i j a e G
   have R:=(List.getElem?_eq_some_iff.1 e).1
   exact(List.getElem?_inj R hn).1 (e.trans G.symm)
 have hinv0:Inv S0 g w:=by
   refine⟨fun b c e=>A.ro b c (by rw[←n.ro];exact e),fun id o e=>?_,fun id id' o o' l l' e G p p' q=>?_,fun id aH=>?_⟩
   · rw[h0] at e
     obtain⟨a,B⟩:=K id o e
     obtain⟨H,X⟩:=hS id a o B e
     obtain⟨l,x,y,z⟩:=A.ob a o H
     refine⟨l,by rw[n.ph,E id a B];exact x,by rw[n.ro];exact y,z.pure_mono (by rw[n.ro];exact fun _ _ e=>e) ?_⟩
     exact List.all_eq_true.1 hp o (sq e)
   · rw[h0] at e G
     obtain⟨a,B⟩:=K id o e
     obtain⟨a', ha'⟩:=K id' o' G
     have:=A.inj a a' o o' l l' (hS id a o B e).1 (hS id' a' o' ha' G).1 (by rw[←E id a B,←n.ph];exact p) (by rw[←E id' a' ha', ←n.ph];exact p') q
     subst this
     exact hinj id id' a B ha'
   · rw[h1] at aH
     rw[n.ph,hσ]
     have:ids[id]? = none:=List.getElem?_eq_none (by rw[hi];exact aH)
     simp only[KO,this]
     exact A.fresh _ (by omega)
 refine(h g w xs (hx.gx n) hinv0).mono fun e w' ⟨r,V,g', ⟨v,hr,hf,Z⟩,hres,R,C⟩=>?_
 subst hr
 obtain⟨k,hk⟩:∃ k,k=d.length:=⟨_,rfl⟩
 rw[←hk] at hf
 have hsub:af.sub (pI V k) V:=⟨(od V k).1.symm,(od V k).2,fun id o e=>by rw[rY] at e;split at e<;>first | simp at e | exact e⟩
 have hik:Inv (pI V k) g' w' := R.sub hsub
 have hfz:=Gh.gQ hik
 have F:∀ b c,(g'.freeze (pI V k) w').ro b=some c→g'.ro b=some c∨(∃ t fz,w'.heap[b]? = some (.cells c t fz))∧∃ id o l,(pI V k).get id=some o∧g'.ph id=some l∧l.bO=b:=by
   intro b c e
   simp only[Gh.freeze] at e
   split at e
   · rename_i c' hc;simp only[an] at e;subst e;exact .inl hc
   · split at e
     · rename_i c' t fz hh
       split at e<;>simp only[an,reduceCtorEq] at e
       rename_i hex
       subst e;exact .inr ⟨⟨t,fz,hh⟩,hex⟩
     · simp at e
 obtain⟨gf,hgf⟩:∃ gf,gf=g'.freeze (pI V k) w' := ⟨_,rfl⟩
 rw[←hgf] at hfz F
 obtain⟨gn,u⟩:∃ gn:Gh,gn={ ro:=gf.ro,ph:=Y.ph }:=⟨_,rfl⟩
 have hro1:∀ b c,Y.ro b=some c→gn.ro b=some c:=by
   intro b c e;rw[u];exact hfz.1.ro b c (C.mJ.ro b c (by rw[n.ro];exact e))
 have hro2:∀ b c,g'.ro b=some c→gn.ro b=some c:=by intro b c e;rw[u];exact hfz.1.ro b c e
 have other:∀ a o l,S.get a=some o→a∉ids→Y.ph a=some l→∀ id o', S0.get id=some o' → ∀ l', g.ph id=some l' → l'.bO≠l.bO:=by
   intro a o l e B I id o' G l' hl' heq
   rw[h0] at G
   obtain⟨b,hb⟩:=K id o' G
   have:=A.inj b a o' o l' l (hS id b o' hb G).1 e (by rw[←E id b hb,←n.ph];exact hl') I heq
   subst this
   exact B (sq hb)
 have hnd:((ids.zip news).map (·.1)).Nodup:=by
   rw[List.map_fst_zip (by omega)];exact hn
 have U:∀ a o,(wV S (ids.zip news)).get a=some o→(∃ i:Nat,ids[i]? = some a∧news[i]? = some o)∨(a∉ids∧S.get a=some o):=by
   intro a o e
   by_cases B:a∈ids
   · obtain⟨i,D⟩:=List.getElem?_of_mem B
     have J:i<news.length:=by rw[hl,←hi];exact(List.getElem?_eq_some_iff.1 D).1
     have N:news[i]? = some news[i]:=nA J
     have hm:(a,news[i])∈ids.zip news:=sq (i:=i) (by rw[List.getElem?_zip_eq_some];exact⟨D,N⟩)
     rw[MQ hnd _ _ hm] at e
     exact .inl ⟨i,D,by rw[N];exact e⟩
   · rw[u6 (fun p hp=>by rintro rfl;exact B (List.of_mem_zip hp).1)] at e
     exact .inr ⟨B,e⟩
 have L:∀(i a:Nat),ids[i]? = some a→∃ o,d[i]? = some o∧S.get a=some o∧S.lim≤a:=by
   intro i a e
   have J:i<d.length:=by rw[←hi];exact(List.getElem?_eq_some_iff.1 e).1
   have ho:d[i]? = some d[i]:=nA J
   exact⟨_,ho,hS i a _ e ho⟩
 have phOf:∀(i a:Nat),ids[i]? = some a→g'.ph i=Y.ph a:=by
   intro i a e
   have J:i<S0.nx:=by rw[h1,←hi];exact(List.getElem?_eq_some_iff.1 e).1
   rw[C.qN i J,n.ph,E i a e]
 have noro:∀ a o l,(wV S (ids.zip news)).get a=some o→Y.ph a=some l→gf.ro l.bO=none:=by
   intro a o l e I
   cases hr:gf.ro l.bO with
   | none=>rfl
   | some c=>
     exfalso
     rcases U a o e with⟨i,D,N⟩ | ⟨B,G⟩
     · obtain⟨l1,x,y,_⟩:=R.ob i o (Z i o N)
       rw[phOf i a D,I] at x;simp only[an] at x;subst x
       rcases F _ _ hr with q | ⟨_,id,o2,l2,H,X,q3⟩
       · rw[y] at q;simp at q
       · rw[rY] at H
         split at H
         · simp at H
         · rename_i hge
           have:=R.inj id i o2 o l2 l H (Z i o N) X (by rw[phOf i a D];exact I) q3
           subst this
           have J:id<k:=by rw[hk,←hi];exact(List.getElem?_eq_some_iff.1 D).1
           exact hge J
     · obtain⟨l1,x,y,z⟩:=A.ob a o G
       rw[I] at x;simp only[an] at x;subst x
       have J:=z.lt
       rcases F _ _ hr with q | ⟨_,id,o2,l2,H,X,q3⟩
       · rcases C.vl _ _ q J with q | ⟨m,o0,O,M,f2,W,f4⟩
         · rw[n.ro,y] at q;simp at q
         · exact other a o l G B I m o0 M O W f4
       · rw[rY] at H
         split at H
         · simp at H
         · obtain⟨m,o0,O,M,f2,W,f4⟩:=C.own id o2 l2 H (by rw[h2];omega) X (by rw[q3];exact J)
           exact other a o l G B I m o0 M O W (f4.trans q3)
 refine⟨.ret v', wV S (ids.zip news),gn,⟨rfl,rfl⟩,?_,⟨fun b c e=>?_,fun a o e=>?_,fun a a' o o' l l' e G p p' q=>?_,fun a B=>?_⟩,⟨C.size,C.os,C.tape,C.output,fun b hb hne=>?_,fun a o l e1 e2 e3 _=>?_,⟨hro1,fun _ _ e=>by rw[u];exact e⟩,by rw[(C7 S _).1];exact Nat.le_refl _,(C7 S _).2,fun a B=>?_,fun a _=>by rw[u],fun b c e hb=>?_,fun a _ e=>?_,C.fz⟩⟩
 · cases e with
   | returned x=>exact((Fz.sound hik hfz hf hres).bare hv).mono ⟨fun b c e=>by rw[u];exact e,fun _ _ e=>by simp[Gh.bare] at e⟩
   | panicked c=>exact hres.elim
   | outgrown=>exact hres.elim
 · rw[u] at e
   rcases F b c e with q | ⟨q,_⟩
   · exact R.ro b c q
   · exact q
 · have hgnph:gn.ph a=Y.ph a:=by rw[u]
   rcases U a o e with⟨i,D,N⟩ | ⟨B,G⟩
   · obtain⟨l,x,y,z⟩:=R.ob i o (Z i o N)
     have I:Y.ph a=some l:=by rw[←phOf i a D];exact x
     refine⟨l,by rw[hgnph];exact I,?_,z.pure_mono hro2 (List.all_eq_true.1 hp' o (sq N))⟩
     have:=noro a o l e I
     rw[u];exact this
   · obtain⟨l,x,y,z⟩:=A.ob a o G
     have hk' : w'.heap[l.bO]? = w.heap[l.bO]? := C.gw l.bO z.lt fun id o' l' M _ W=>other a o l G B x id o' M l' W
     refine⟨l,by rw[hgnph];exact x,?_,by rw[hk'];exact z.mono ⟨hro1,fun _ _ e=>by rw[u];exact e⟩⟩
     have:=noro a o l e x
     rw[u];exact this
 · have back:∀ a o,(wV S (ids.zip news)).get a=some o→∃ o', S.get a=some o' := by
     intro a o e
     rcases U a o e with⟨i,D,_⟩ | ⟨_,G⟩
     · obtain⟨o', _,q,_⟩:=L i a D;exact⟨o', q⟩
     · exact⟨o,G⟩
   obtain⟨o1,H⟩:=back a o e
   obtain⟨o2,X⟩:=back a' o' G
   exact A.inj a a' o1 o2 l l' H X (by rw[u] at p;exact p) (by rw[u] at p';exact p') q
 · rw[(C7 S _).1] at B
   rw[u];exact A.fresh a B
 · refine C.gw b hb fun id o l M _ W=>?_
   rw[h0] at M
   obtain⟨a,B⟩:=K id o M
   obtain⟨H,X⟩:=hS id a o B M
   exact hne a o l H X (by rw[←E id a B,←n.ph];exact W)
 · rw[u] at e3
   rcases U a o e1 with⟨i,D,_⟩ | ⟨_,G⟩
   · obtain⟨o', _,q,_⟩:=L i a D;exact⟨a,o', l,q,e2,e3,rfl⟩
   · exact⟨a,o,l,G,e2,e3,rfl⟩
 · refine u6 fun p hp=>?_
   rintro rfl
   obtain⟨i,hi2⟩:=List.getElem?_of_mem (List.of_mem_zip hp).1
   obtain⟨_,_,_,q⟩:=L i _ hi2
   omega
 · rw[u] at e
   have fin:∀ m o0 O,S0.get m=some o0→g.ph m=some O→O.bO=b→∃ m o0 O,S.get m=some o0∧S.lim≤m∧Y.ph m=some O∧O.bO=b:=by
     intro m o0 O M W f4
     rw[h0] at M
     obtain⟨a,B⟩:=K m o0 M
     obtain⟨H,X⟩:=hS m a o0 B M
     exact⟨a,o0,O,H,X,by rw[←E m a B,←n.ph];exact W,f4⟩
   rcases F b c e with q | ⟨_,id,o,l,H,X,q3⟩
   · rcases C.vl b c q hb with f | ⟨m,o0,O,M,f2,W,f4⟩
     · exact .inl (by rw[←n.ro];exact f)
     · exact .inr (fin m o0 O M W f4)
   · rw[rY] at H
     split at H
     · simp at H
     · obtain⟨m,o0,O,M,f2,W,f4⟩:=C.own id o l H (by rw[h2];omega) X (by rw[q3];exact hb)
       exact .inr (fin m o0 O M W (f4.trans q3))
 · refine(u6 fun p hp=>?_).trans e
   rintro rfl
   obtain⟨i,hi2⟩:=List.getElem?_of_mem (List.of_mem_zip hp).1
   obtain⟨o', _,q,_⟩:=L i _ hi2
   rw[e] at q;simp at q
def RO (k:Nat)(v' : AV)(news:List ai):gI→af→Prop:=fun r S=>∃ v,r=.ret v∧Fz (pI S k) v v' ∧ ∀(i:Nat) (o:ai),news[i]? = some o→S.get i=some o
theorem ai.hZ {σ:Nat→Nat}(h:ur o=true):o.aw σ=o:=by
 cases o with
 | arr sz es=>simp only[ai.aw,ju (show bF es=true from h)]
 | _=>simp[ur] at h
variable {k : Nat} {v' : AV} {news : List ai}
theorem aqQ (n:aq v' = true)(p:news.all ur=true)(q:news.length=k):tM k (RO k v' news):=by
 rintro σ f c r S g ⟨v,rfl,h,t⟩ d
 refine⟨v.aw σ,rfl,?_,fun i o e=>?_⟩
 · have l:yf σ (pI S k) (pI g k):=by
    refine⟨fun id o e=>?_,fun id h=>by rw[(od S k).2] at h;rw[(od g k).2];exact d.lim id h,fun j=>by rw[(od S k).1,(od g k).1];exact d.hi j,fun id aH=>by rw[(od S k).1] at aH;rw[(od g k).1];exact d.lo id aH⟩
    rw[rY] at e ⊢
    split at e
    · simp at e
    · rename_i m
      rw [if_neg (fun b=>m (by
       have:=f (σ id) id (c (σ id) b)
       rw[←this];exact b))]
      exact d.get id o e
   have:=h.aw l
   rw[AV.hZ n] at this
   exact this
 · have b:i<k:=by rw[←q];exact(List.getElem?_eq_some_iff.1 e).1
   have:=d.get i o (t i o e)
   rw[c i b,ai.hZ (List.all_eq_true.1 p o (sq e))] at this
   exact this
def BV (S:af):Nat→List ai→Prop
 | _,[]=>True
 | i,o::r=>S.get i=some o∧BV S (i+1) r
theorem Yx (S:af)(i:Nat):BV S i []:=trivial
theorem X2 {i:Nat}{r:List ai}(h:S.get i=some o)(t:BV S (i+1) r):BV S i (o::r):=⟨h,t⟩
theorem Ho : ∀ {l:List ai} {i:Nat},BV S i l→∀(j:Nat) (o:ai),l[j]? = some o→S.get (i+j)=some o:=by
 intro l
 induction l with
 | nil=>intro i _ j o e;simp at e
 | cons x r b=>
   intro i h j o e
   cases j with
   | zero=>simp at e;subst e;exact h.1
   | succ j=>
     have:=b h.2 j o (by simpa using e)
     rw[show i+1+j=i+(j+1) from by omega] at this
     exact this
def lY : Nat→List ai→List (Nat×ai)
 | _,[]=>[]
 | i,o::r=>(i,o)::lY (i+1) r
theorem EK : ∀(l:List ai) (i id:Nat) (o:ai),(id,o)∈lY i l→i≤id∧l[id-i]? = some o:=by
 intro l
 induction l with
 | nil=>intro i id o h;simp[lY] at h
 | cons x r c=>
   intro i id o h
   rcases List.mem_cons.1 h with e | e
   · simp only[gU] at e;obtain⟨rfl,rfl⟩:=e;exact⟨Nat.le_refl _,by simp⟩
   · obtain⟨a,b⟩:=c (i+1) id o e
     refine⟨by omega,?_⟩
     rw[show id-i=(id-(i+1))+1 from by omega];simpa using b
theorem MR : ∀(l:List ai) (i j:Nat) (o:ai),l[j]? = some o→(i+j,o)∈lY i l:=by
 intro l
 induction l with
 | nil=>intro i j o e;simp at e
 | cons x r b=>
   intro i j o e
   cases j with
   | zero=>simp at e;subst e;exact List.mem_cons_self ..
   | succ j=>
     have:=b (i+1) j o (by simpa using e)
     rw[show i+1+j=i+(j+1) from by omega] at this
     exact tf _ this
theorem Hp : ∀(l:List ai) (i:Nat),ko (lY i l)=true:=by
 intro l
 induction l with
 | nil=>intro i;rfl
 | cons x r c=>
   intro i
   have:D9 i (lY (i+1) r)=false:=by
    have key:∀ m:List (Nat×ai),(∀ id o,(id,o)∈m→id≠i)→D9 i m=false:=by
     intro m
     induction m with
     | nil=>intro _;rfl
     | cons p m b=>
       intro h
       obtain⟨k,y⟩:=p
       simp only[D9]
       have d:k≠i:=h k y (List.mem_cons_self ..)
       rw[show Nat.beq k i=false from by rw[Bool.eq_false_iff];exact fun q=>d (jj q)]
       exact b fun id o e=>h id o (tf _ e)
    exact key _ fun id o e=>by have:=(EK r (i+1) id o e).1;omega
   show(match D9 i (lY (i+1) r) with | true=>false | false=>ko (lY (i+1) r))=true
   rw[this];exact c (i+1)
theorem C8 (l:List ai)(i:Nat):(oL l.length (lY 0 l)).get i=l[i]? := by
 cases h:l[i]? with
 | some o=>
   have:=MR l 0 i o h
   rw[Nat.zero_add] at this
   exact C6 _ .nil (Hp l 0) i o this
 | none=>
   cases b:(oL l.length (lY 0 l)).get i with
   | none=>rfl
   | some o=>
     have:=(EK l 0 i o (vL b)).2
     rw[Nat.sub_zero,h] at this;simp at this
section
variable {T : FT} {P : Program} {Q : gI → af → Prop}
variable {s : St}
theorem ap8 (E:bL T P)(n:Nat){v w:AV}(h:wU (ab T P n s)=some v)(b:Fz (pI (Np (ab T P n s)) k) v w)(c:BV (Np (ab T P n s)) 0 news):SX P (RO k w news) s:=by
 refine⟨bP E.ok E.mix n ?_⟩
 generalize ab T P n s=s at h b c
 unfold wU at h
 split at h<;>simp only[an,reduceCtorEq] at h
 subst h
 exact⟨_,rfl,b,fun i o e=>by have:=Ho c i o e;rwa [Nat.zero_add] at this⟩
theorem ap9 (E:bL T P){f:Nat}{args c:List AV}{b:List ai}(h:SX P (RO b.length v' news) (St.start T f args (oL b.length (lY 0 b))))(e:news.length=b.length)(g:b.all ur=true)(d:news.all ur=true)(i:aq v' = true)(S:af)(ids:List Nat)(hi:ids.length=b.length)(j:ids.Nodup)(l:BU S ids b)(m:dE (KO ids S.nx) args=c) :
  cL P f c S fun r n=>r=.ret v' ∧ n=wV S (ids.zip news):=by
 rw[←m]
 exact cL.own (tZ E.ok h.out) (C8 b) rfl rfl e g d i hi j (Hn l)
def P9 : St→Bool
 | .run _ _ _ _=>true
 | _=>false
def NQ (v:AV)(r:af→af)(s:St):St:=aF v (some (r (iY s))) s
theorem acz (E:bL T P)(n:Nat)(g:Nat)(args:List AV)(v:AV)(r:af→af)(h:Kn T P (ab T P n s)=some (g,args))(c:P9 (ab T P n s)=true)(d:cL P g args (iY (ab T P n s)) fun x b=>x=.ret v∧b=r (iY (ab T P n s)))(q:SX P Q (NQ v r (ab T P n s))):SX P Q s:=
 ⟨vW E.ok E.mix n g args (iY (ab T P n s)) v _ h rfl (by
  generalize ab T P n s=s at c
  cases s with
  | run fn F S k=>exact⟨fn,F,S,k,rfl⟩
  | _=>simp[P9] at c) d q.out⟩
end
end
end Go.Eng
namespace Go.Eng
noncomputable section
def bump (S:af):af:=match S with | ⟨nx,lim,m⟩=>⟨Nat.succ nx,lim,m⟩
theorem rU (S:af)(id:Nat):(bump S).get id=S.get id:=rfl
def acO (P:Program)(S:af)(t:TypeId)(a h m:AV):Option cJ:=jC S (w6 P t a h m)
variable {E : af} {g : Gh} {w : World} {sz : Nat} {es : List AV}
theorem Hq {g' : Gh}{w' : World}{x:Value}(h0:Inv E g w)(hi:Inv (E.add (.arr sz es)) g' w')(hx:Ext E g w (E.add (.arr sz es)) g' w')(R:VR g' (.ak E.nx 0 es.length) x)(C:E.lim≤E.nx) :
   ∃ r,VR r (.lit es) x∧Inv (bump E) r w' ∧ Ext E g w (bump E) r w' := by
 have k:(E.add (.arr sz es)).get E.nx=some (.arr sz es):=af.kW (nf _)
 have f:∀ id,id≠E.nx→(E.add (.arr sz es)).get id=E.get id:=fun id m=>af.dj (nf _) m
 have h:E.get E.nx=none:=by
   cases q:E.get E.nx with
   | none=>rfl
   | some o=>exact absurd (h0.iZ q) (Nat.lt_irrefl _)
 obtain⟨l,l1,l2,c,t,Z,p2,H,p4,p5,p6⟩:=hi.ob _ _ k
 have X:w.heap.size≤l.bO:=by
   rcases Nat.lt_or_ge l.bO w.heap.size with L | M
   · exfalso
     obtain⟨A,o0,l0,U,f2,f3,f4⟩:=hx.own _ _ l k C l1 L
     have Y:=h0.iZ U
     have:=hi.inj A E.nx o0 _ l0 l (by rw[f A (by omega)];exact U) k (hx.mJ.ph _ _ f3) l1 f4
     omega
   · exact M
 obtain⟨r,d⟩:∃ r:Gh,r={ ro:=fun b=>if b=l.bO then some c else g'.ro b,ph:=g'.ph }:=⟨_,rfl⟩
 have z:Gh.le g' r:=by
   refine⟨fun b c' e=>?_,fun _ _ e=>by rw[d];exact e⟩
   rw[d]
   simp only
   split
   · rename_i p;subst p;rw[l2] at e;simp at e
   · exact e
 have N:r.ro l.bO=some c:=by rw[d];simp
 refine⟨r,?_,⟨fun b c' e=>?_,fun id o e=>?_,fun id B o o' l' O e F q V p=>?_,fun id aH=>?_⟩,⟨hx.size,hx.os,hx.tape,hx.output,hx.gw,fun id o l' e I G J=>?_,Gh.le_trans hx.mJ z,?_,hx.lim,fun id _=>rfl,fun id aH=>by rw[d];exact hx.qN id aH,fun b c' e p=>?_,fun id _ e=>e,hx.fz⟩⟩
 · generalize u:es.length=len at R
   cases R with
   | ak K D p=>
     rw[l1] at K;simp only[an] at K;subst K
     subst u
     refine .lit (sz:=l.sz) N (fun e he=>?_) (by rw[H];omega) D fun i j e a y I G J=>?_
     · rw[H];exact p5 e he
     · exact(p6 i j e a y I G (by rw[←H,←J];congr 1;omega)).mono z
   | fI=>
     have:es=[]:=List.length_eq_zero_iff.1 u
     subst this;exact .gi
 · rw[d] at e
   simp only at e
   split at e
   · rename_i p;simp only[an] at e;subst e;subst p;exact⟨t,_,Z⟩
   · exact hi.ro b c' e
 · rw[rU] at e
   have m:id≠E.nx:=by rintro rfl;rw[h] at e;simp at e
   obtain⟨l', W,q2,q3⟩:=hi.ob id o (by rw[f id m];exact e)
   refine⟨l', by rw[d];exact W,?_,q3.mono z⟩
   rw[d]
   simp only
   rw[if_neg (fun p=>m (hi.inj id E.nx o _ l' l (by rw[f id m];exact e) k W l1 p))]
   exact q2
 · rw[rU] at e F
   rw[d] at q V
   exact hi.inj id B o o' l' O (by rw[f id (by rintro rfl;rw[h] at e;simp at e)];exact e) (by rw[f B (by rintro rfl;rw[h] at F;simp at F)];exact F) q V p
 · rw[d];exact hi.fresh id aH
 · rw[rU] at e
   rw[d] at G
   exact hx.own id o l' (by rw[f id (by rintro rfl;rw[h] at e;simp at e)];exact e) I G J
 · exact Nat.le_succ _
 · rw[d] at e
   simp only at e
   split at e
   · rename_i hbb;omega
   · exact hx.vl b c' e p
variable {P : Program} {all : Array Oper} {o : Oper} {get : Nat → Option AV}
theorem mL.copy (e:E.lim≤E.nx)(h:mL P all o get E (.ak E.nx 0 es.length) (E.add (.arr sz es))):mL P all o get E (.lit es) (bump E):=by
 intro g w fr cs i rest m f j k l hi
 obtain⟨w', g', x,a,b,c,d⟩:=h g w fr cs i rest m f j k l hi
 obtain⟨p,q,r,t⟩:=Hq hi c d b e
 exact⟨w', p,x,a,q,r,t⟩
variable {v : AV}
theorem mL.none {e:AV}(f:∀ g x,VR g v x→VR g e x)(h:mL P all o get E v E):mL P all o get E e (bump E):=by
 intro g w fr cs i rest m j k l p hi
 obtain⟨w', g', x,a,b,c,d⟩:=h g w fr cs i rest m j k l p hi
 exact⟨w', g', x,a,f _ _ b,⟨c.ro,c.ob,c.inj,fun id aH=>c.fresh id (Nat.le_of_succ_le aH)⟩,⟨d.size,d.os,d.tape,d.output,d.gw,d.own,d.mJ,Nat.le_succ _,d.lim,d.rM,d.qN,d.vl,d.dead,d.fz⟩⟩
variable {S S1 : af}
theorem Reach.afb {F:ad}{G:ad→af→Prop}{i:Nat}{rest:List Nat}{k:List ay}(r:F.mode=.run)(y:F.todo=.ops all (i::rest)::k)(p:all[i]? = some o)(l:mL P all o F.get S v S1)(h:Reach P (F.after o v all rest k) S1 G):Reach P F S G:=by
 obtain⟨a,b,c,d⟩:=F.gP o v all rest k
 refine h.uF a b c d fun g w fr cs f hi=>?_
 obtain⟨m,q,z⟩:=f.split y
 obtain⟨w', g', x,A,B,C,j⟩:=l g w fr cs i rest m (f.runs r) q p (fun t _ u e=>f.get t u e) hi
 exact⟨fr.finish x,w', g', (f.mono j.mJ).after q (z.mono j.mJ) p B,C,j,A⟩
structure Wk (v1 v2 : AV) (S1 S2 : af) : Prop where
 vr : ∀ g x, VR g v1 x → VR g v2 x
 nx : S2.nx = S1.nx
 lim : S2.lim = S1.lim
 ob : ∀ id o2, S2.get id = some o2 → ∃ o1, S1.get id = some o1 ∧ ∀ g l x, rI g l x o1 → rI g l x o2
 rM : ∀ id, id < S1.lim → S2.get id = S1.get id
theorem mL.wk {p:af}{v1 t:AV}(f:Wk v1 t S1 p)(h:mL P all o get E v1 S1):mL P all o get E t p:=by
 intro g w fr cs i rest m u A B C hi
 obtain⟨w', g', x,a,b,c,d⟩:=h g w fr cs i rest m u A B C hi
 refine⟨w', g', x,a,f.vr _ _ b,⟨c.ro,fun id o e=>?_,fun id k o o' l l' e D=>?_,fun id aH=>c.fresh id (by rw[←f.nx];exact aH)⟩,⟨d.size,d.os,d.tape,d.output,d.gw,fun id o l e F G H=>?_,d.mJ,by rw[f.nx];exact d.nx,f.lim.trans d.lim,fun id aH=>(f.rM id (by rw[d.lim];exact aH)).trans (d.rM id aH),d.qN,d.vl,fun id aH e=>?_,d.fz⟩⟩
 · obtain⟨o1,j,r⟩:=f.ob id o e
   obtain⟨l,x,y,z⟩:=c.ob id o1 j
   exact⟨l,x,y,r _ _ _ z⟩
 · obtain⟨o1,j,_⟩:=f.ob id o e
   obtain⟨o2,r,_⟩:=f.ob k o' D
   exact c.inj id k o1 o2 l l' j r
 · obtain⟨o1,j,_⟩:=f.ob id o e
   exact d.own id o1 l j F G H
 · cases q:p.get id with
   | none=>rfl
   | some o=>
     obtain⟨o1,j,_⟩:=f.ob id o q
     rw[d.dead id aH e] at j;simp at j
variable {n : Nat}
theorem EL {l:Loc}{x:Option Obj}(h:rI g l x (.arr sz es)):rI g l x (.arr sz (es.take n++rE (es.drop n))):=by
 obtain⟨c,t,h1,h2,h3,h4,h5,h6⟩:=h
 have d:∀ e:AV,(sM e).cells.length=e.cells.length∧∀(j:Nat) (a:AV),(sM e).cells[j]? = some a→∃ a0,e.cells[j]? = some a0∧a=sM a0:=by
   intro e
   have one:∀ u:AV,u.cells=[u]→(sM u).cells=[sM u]→(sM u).cells.length=u.cells.length∧∀(j:Nat) (a:AV),(sM u).cells[j]? = some a→∃ a0,u.cells[j]? = some a0∧a=sM a0:=by
     intro u C D
     rw[C,D]
     refine⟨rfl,fun j a q=>?_⟩
     cases j with
     | zero=>simp at q;exact⟨u,rfl,q.symm⟩
     | succ j=>simp at q
   cases e with
   | agg cs=>
     rw[sM]
     refine⟨mD cs,fun j a q=>?_⟩
     rw[show(AV.agg (rE cs)).cells=rE cs from rfl,vZ] at q
     cases m:cs[j]? with
     | none=>rw[m] at q;simp at q
     | some b=>rw[m] at q;simp at q;exact⟨b,m,q.symm⟩
   | ax=>exact one _ rfl (by rw[sM];rfl)
   | dV=>exact one _ rfl (by rw[sM];rfl)
   | _=>exact one _ rfl (by rw[sM]<;>first | rfl | simp)
 have A:(es.take n++rE (es.drop n)).length=es.length:=by simp[mD];omega
 have k:∀(i:Nat) (e:AV),(es.take n++rE (es.drop n))[i]? = some e→∃ f,es[i]? = some f∧(e=f∨e=sM f):=by
   intro i e q
   by_cases hi:i<(es.take n).length
   · rw[List.getElem?_append_left hi,List.getElem?_take] at q
     split at q
     · exact⟨e,q,.inl rfl⟩
     · simp at q
   · rw[List.getElem?_append_right (by omega),vZ,List.getElem?_drop] at q
     have hle:es.length≤n∨(es.take n).length=n:=by
       rcases Nat.lt_or_ge n es.length with a | a
       · exact .inr (by simp;omega)
       · exact .inl a
     rcases hle with hle | hle
     · have:es[n+(i-(es.take n).length)]? = none:=List.getElem?_eq_none (by omega)
       rw[this] at q;simp at q
     · rw[hle,show n+(i-n)=i from by omega] at q
       cases m:es[i]? with
       | none=>rw[m] at q;simp at q
       | some b=>rw[m] at q;simp at q;exact⟨b,rfl,.inr q.symm⟩
 refine⟨c,t,h1,h2,h3,by rw[A];exact h4,fun e F=>?_,fun i j e a y p q r=>?_⟩
 · obtain⟨i,hi⟩:=List.getElem?_of_mem F
   obtain⟨f,z,B⟩:=k i e hi
   rcases B with rfl | rfl
   · exact h5 _ (sq z)
   · rw[(d f).1];exact h5 _ (sq z)
 · obtain⟨f,z,B⟩:=k i e p
   rcases B with rfl | rfl
   · exact h6 i j _ a y z q r
   · obtain⟨a0,G,rfl⟩:=(d f).2 j a q
     exact(h6 i j f a0 y z G r).sM
theorem Wk.add {S:af}{v:AV}{sz n:Nat}{es a:List AV}(b:es.take n++rE (es.drop n)=a)(c:S.lim≤S.nx):Wk v v (S.add (.arr sz es)) (S.add (.arr sz a)):=by
 subst b
 have key:∀(o:ai) id,(S.add o).get id=if id=S.nx then some o else S.get id:=by
   intro o id
   by_cases e:id=S.nx
   · subst e;rw[if_pos rfl];exact af.kW (nf _)
   · rw[if_neg e];exact af.dj (nf _) e
 refine⟨fun _ _ h=>h,rfl,rfl,fun id o2 e=>?_,fun id aH=>?_⟩
 · rw[key] at e
   split at e
   · rename_i aH
     simp only[an] at e;subst e
     exact⟨_,by rw[key,if_pos aH],fun g l x h=>EL h⟩
   · rename_i aH
     exact⟨o2,by rw[key,if_neg aH];exact e,fun _ _ _ h=>h⟩
 · have aH:id<S.lim:=aH
   rw[key,key,if_neg (by omega),if_neg (by omega)]
section
variable {T : FT} {P : Program} {Q : gI → af → Prop}
variable {s : St}
theorem Es (E:bL T P)(n:Nat)(o:af→Option cJ)(x:AV)(l:af→af)(h:vo P (ab T P n s)=o (eA (ab T P n s)))(H:((cO (ab T P n s)).bind (·.dst)).isSome=true)(M:∃ r,o (eA (ab T P n s))=some r)(j:∀ {all:Array Oper} {op:Oper} {get:Nat→Option AV},(∀ v S1,o (eA (ab T P n s))=some (.val v S1)→mL P all op get (eA (ab T P n s)) v S1)→mL P all op get (eA (ab T P n s)) x (l (eA (ab T P n s))))(K:(eA (ab T P n s)).nx≤(l (eA (ab T P n s))).nx)(q:SX P Q (jG (fun S=>.val x (l S)) (ab T P n s))):SX P Q s:=by
 refine⟨bP E.ok E.mix n ?_⟩
 have q:=q.out
 generalize ab T P n s=s at h H M j K q
 have key:=@j
 cases s with
 | run fn F S k=>
   have q:aA P Q (aF x (some (l S)) (.run fn F S k)):=q
   cases I:cO (.run fn F S k) with
   | none=>rw[I] at H;simp at H
   | some op=>
     obtain⟨N,all,i,rest,td,O,z,J⟩:=u3 I
     simp only[aF,O,vH,z,gy] at q
     refine aA.reach (fun G R=>Reach.afb N O z (key fun v S1 e=>?_) R) q
     have h:No P (.run fn F S k)=some (.val v S1):=h.trans e
     simp only[No] at h
     rw[I] at h
     simp only at h
     split at h<;>try (simp at h;done)
     rename_i hc p
     rw[lU] at h
     exact mL.val J p h
 | e9 D k=>
   have q:aA P Q (I2 (.val x (l (eA (.e9 D k)))) (.e9 D k)):=q
   cases f:D.os with
   | nil=>simp only[I2,f] at q;exact q.elim
   | cons op os=>
     have A:eA (.e9 D k)=⟨D.S.nx,D.S.lim,seen D.S (al D.dX op.after.toList) D.jJ (gF D.F (gX op.op)) .nil⟩:=by simp only[eA,f]
     simp only[I2,f] at q
     have h1:D8 P D op=o (eA (.e9 D k)):=by
      have:vo P (.e9 D k)=D8 P D op:=by simp only[vo,KK,f]
      rw[←this];exact h
     have facts:qP D.F D.ops op=some true∧bG op.op=false∧jt (al D.dX op.after.toList) D.es D.S.nx (mP D.S.lim (gF D.F (gX op.op)))=true∧∀ r,D8 P D op=some r→fK P D.F.eval (eA (.e9 D k)) op.op=some r:=by
      have u:∃ r,D8 P D op=some r:=by obtain⟨r,e⟩:=M;exact⟨r,h1.trans e⟩
      obtain⟨r,y⟩:=u
      have L:=y
      unfold D8 at y
      split at y<;>try (simp at y;done)
      rename_i U a2 a3 a4
      refine⟨U,a2,a4,fun r' e=>?_⟩
      rw[L] at e;simp only[an] at e;subst e
      rw[lU] at y
      rw[A];exact y
     obtain⟨J,p,V,C⟩:=facts
     have t:mL P D.ops op D.F.get (eA (.e9 D k)) x (l (eA (.e9 D k))):=key fun v S1 e=>mL.val J p (C _ (h1.trans e))
     rw[A] at t q
     have d:∀ {nx lim id ob},(⟨nx,lim,seen D.S (al D.dX op.after.toList) D.jJ (gF D.F (gX op.op)) .nil⟩:af).get id=some ob→id∈gF D.F (gX op.op)∧D.S.get id=some ob∧iu (al D.dX op.after.toList) D.jJ id=true:=by
      intro nx lim id ob e
      have hi:=af.dG e
      rw[af.bK hi] at e
      rcases vV hi e with q | q
      · rw[PT.get_nil] at q;simp at q
      · exact q
     generalize N:seen D.S (al D.dX op.after.toList) D.jJ (gF D.F (gX op.op)) .nil=m at *
     simp only[ti,zA] at q
     refine fh.mono (fun Q q=>?_) q
     refine nZ.step q f rfl (fun F0 S0 E0 E0' v0 ch B W X=>?_)
     have Y:=X ⟨D.S.nx,D.S.lim,m⟩ x (l ⟨D.S.nx,D.S.lim,m⟩) t rfl fun id ob e=>(d e).2.1
     exact B.news W f t Y rfl (.inl rfl) (fun id ob e=>⟨(d e).2.1,B.clear (d e).2.2⟩) (fun id ob e Z _=>nJ.2 ⟨(d e).1,Z⟩) (fun id a _=>(nJ.1 a).2) (fun id a _=>nT V id a) (fun id ob e=>by
      obtain⟨a,_,b,c⟩:=uY e;exact⟨a,b,c⟩) (.inl rfl)
 | _=>simp[vo] at h;simp[cO] at H
theorem LU (E:bL T P)(n:Nat)(o:af→Option cJ)(es:List AV)(h:vo P (ab T P n s)=o (eA (ab T P n s)))(c:((cO (ab T P n s)).bind (·.dst)).isSome=true)(d:Nat.ble (eA (ab T P n s)).lim (eA (ab T P n s)).nx=true)(a:(∃ sz,o (eA (ab T P n s))=some (.val (.ak (eA (ab T P n s)).nx 0 es.length) ((eA (ab T P n s)).add (.arr sz es))))∨(es=[]∧∃ v,o (eA (ab T P n s))=some (.val v (eA (ab T P n s)))∧∀ g x,VR g v x→VR g (.lit []) x))(q:SX P Q (jG (fun S=>.val (.lit es) (bump S)) (ab T P n s))):SX P Q s:=
 Es E n o (.lit es) bump h c (by rcases a with⟨sz,a⟩ | ⟨_,v,a,_⟩<;>exact⟨_,a⟩) (fun {all op get} b=>by
  rcases a with⟨sz,a⟩ | ⟨rfl,v,a,e⟩
  · exact mL.copy (ed d) (b _ _ a)
  · exact mL.none e (b _ _ a)) (Nat.le_succ _) q
theorem Zy (E:bL T P)(n:Nat)(o:af→Option cJ)(v:AV)(a:af→af)(h:vo P (ab T P n s)=o (eA (ab T P n s)))(c:((cO (ab T P n s)).bind (·.dst)).isSome=true)(d:∃ S1,o (eA (ab T P n s))=some (.val v S1)∧Wk v v S1 (a (eA (ab T P n s)))∧(eA (ab T P n s)).nx≤(a (eA (ab T P n s))).nx)(q:SX P Q (jG (fun S=>.val v (a S)) (ab T P n s))):SX P Q s:=
 let ⟨S1,e,f,i⟩:=d
 Es E n o v a h c ⟨_,e⟩ (fun {_ _ _} b=>(b _ _ e).wk f) i q
end
section
variable {P : Program} {α : Type} {enc : α → AV}
variable {st xt el : Nat} {src : AV}
theorem XD {s:AV}{xs:List α}(l:s=.ax∨s=.dV∨s=.clip (.lit []))(j:A4 P st el sz=true)(k:A5 P xt=true)(e:∀ x,(enc x).cells.length=sz)(b:∀ x,(enc x).cells.all cV=true)(d:gl S src=some (xs.map enc))(f:(Nat.ble (S.nx+1) 8192&&Nat.ble S.lim S.nx)=true)(m:xs.length≤1048576) :
   (∃ sz,rK P S st xt s src=some (.val (.ak S.nx 0 (xs.map enc).length) (S.add (.arr sz (xs.map enc)))))∨(xs.map enc=[]∧∃ v,rK P S st xt s src=some (.val v S)∧∀ g x,VR g v x→VR g (.lit []) x):=by
 cases xs with
 | nil=>
   refine .inr ⟨rfl,s,?_,fun g x h=>?_⟩
   · rcases l with rfl | rfl | rfl<;>exact vY (enc:=enc) (ys:=[]) j k d rfl rfl rfl
   · rcases l with rfl | rfl | rfl
     · cases h;exact .gi
     · cases h;exact .gi
     · cases h with
       | clip h=>
         rename_i a n c
         generalize A:Value.slice a n c=y at h
         cases h with
         | gi=>cases A;exact .gi
         | lit F G H C hh=>cases A;exact .gi
 | cons y ys=>
   refine .inl ⟨sz,?_⟩
   rcases l with rfl | rfl | rfl
   · have:=vO (P:=P) (S:=S) (enc:=enc) (ys:=y::ys) (s:=.ax) (.inl rfl) j k e b d rfl f (by simp) m
     simpa using this
   · have:=vO (P:=P) (S:=S) (enc:=enc) (ys:=y::ys) (s:=.dV) (.inr rfl) j k e b d rfl f (by simp) m
     simpa using this
   · obtain⟨i,z,t,hi,D,B⟩:=nG j
     obtain⟨I,u⟩:=nH k
     simp only[Bool.and_eq_true] at B f
     obtain⟨⟨⟨⟨h1,h2⟩,h3⟩,h4⟩,h5⟩:=B
     have h5:=jj h5
     subst h5
     have p:=kU (enc:=enc) e b (y::ys)
     simp only[List.map_cons] at d p
     have q:Nat.ble (([]:List AV).length+(enc y::ys.map enc).length) 1048576=true:=sr (by simpa using m)
     have r:gl S (.clip (.lit []))=some []:=rfl
     simp only[rK,fM,jZ,t,u,hi,D,d,p,h1,h2,h3,h4,Bool.and_true,r,q,show sized i.size []=true from rfl,eC,f.1,f.2,List.nil_append,List.map_cons]
end
section
variable {P : Program} {α : Type} {enc : α → AV}
variable {st xt el : Nat} {src : AV} {raw : List AV} {nx : Nat}
theorem MS {s:AV}{ys:List α}(f:s=.ax∨s=.dV)(h:A4 P st el sz=true)(j:A5 P xt=true)(k:sized sz raw=true)(d:gl S src=some raw)(b:rE raw=ys.map enc)(l:S.nx=nx)(a:(Nat.ble (S.nx+1) 8192&&Nat.ble S.lim S.nx)=true)(m:ys≠[])(p:ys.length≤1048576) :
   ∃ S1,rK P S st xt s src=some (.val (.ak nx 0 ys.length) S1)∧Wk (.ak nx 0 ys.length) (.ak nx 0 ys.length) S1 (S.add (.arr sz (ys.map enc)))∧S.nx≤(S.add (.arr sz (ys.map enc))).nx:=by
 subst l
 have c:raw.length=ys.length:=by have:=congrArg List.length b;simpa [mD] using this
 obtain⟨i,z,q,hi,x,u⟩:=nG h
 obtain⟨y,t⟩:=nH j
 simp only[Bool.and_eq_true] at u a
 obtain⟨⟨⟨⟨h1,h2⟩,h3⟩,h4⟩,h5⟩:=u
 have h5:=jj h5
 subst h5
 refine⟨S.add (.arr i.size raw),?_,Wk.add (n:=0) (by simpa using b) (ed a.2),Nat.le_succ _⟩
 rw[←c]
 cases raw with
 | nil=>exact absurd (List.length_eq_zero_iff.1 c.symm) m
 | cons r raw=>
   have e:Nat.ble (r::raw).length 1048576=true:=sr (by rw[c];exact p)
   rcases f with rfl | rfl <;>
   simp only[rK,fM,jZ,q,t,hi,x,d,k,h1,h2,h3,h4,Bool.and_true,e,eC,a.1,a.2]
theorem MT {id len:Nat}{xs ys:List α}(p:A4 P st el sz=true)(q:A5 P xt=true)(f:∀ x,(enc x).cells.length=sz)(c:∀ x,(enc x).cells.all cV=true)(t:sized sz raw=true)(a:S.get id=some (.arr sz (xs.map enc)))(h:gl S src=some raw)(d:rE raw=ys.map enc)(j:len=xs.length)(u:S.nx=nx)(b:(Nat.ble (S.nx+1) 8192&&Nat.ble S.lim S.nx)=true)(y:Nat.ble S.lim id=true)(A:ys≠[])(B:xs.length+ys.length≤1048576) :
   ∃ S1,rK P S st xt (.ak id 0 len) src=some (.val (.ak nx 0 (xs++ys).length) S1)∧Wk (.ak nx 0 (xs++ys).length) (.ak nx 0 (xs++ys).length) S1 ((S.del id).add (.arr sz ((xs++ys).map enc)))∧S.nx≤((S.del id).add (.arr sz ((xs++ys).map enc))).nx:=by
 subst u
 have e:raw.length=ys.length:=by have:=congrArg List.length d;simpa [mD] using this
 obtain⟨i,z,C,hi,K,J⟩:=nG p
 obtain⟨L,D⟩:=nH q
 simp only[Bool.and_eq_true] at J b
 obtain⟨⟨⟨⟨h1,h2⟩,h3⟩,h4⟩,h5⟩:=J
 have h5:=jj h5
 subst h5
 subst j
 have F:=kU (enc:=enc) f c xs
 refine ⟨(S.del id).add (.arr i.size (xs.map enc++raw)),?_,Wk.add (S:=S.del id) (n:=xs.length) (by
   rw[List.take_append_of_le_length (by simp),List.take_of_length_le (by simp),List.drop_append_of_le_length (by simp),List.drop_of_length_le (by simp),List.nil_append,d,List.map_append]) (ed b.2),Nat.le_succ _⟩
 have k:gl S (.ak id 0 xs.length)=some (xs.map enc):=nQ _ (.inr ⟨id,_,rfl,a⟩)
 cases raw with
 | nil=>exact absurd (List.length_eq_zero_iff.1 e.symm) A
 | cons r raw=>
   have l:Nat.ble ((xs.map enc).length+(r::raw).length) 1048576=true:=sr (by rw[e];simpa using B)
   have m:Nat.beq i.size i.size=true:=Nat.beq_refl _
   have G:(S.del id).nx=S.nx:=rfl
   have H:(S.del id).lim=S.lim:=rfl
   have I:w8 S id 0 xs.length i.size (r::raw)=none:=by
    have:Nat.ble (0+xs.length+(r::raw).length) (xs.map enc).length=false:=by
     cases m:Nat.ble (0+xs.length+(r::raw).length) (xs.map enc).length with
     | false=>rfl
     | true=>exfalso;have:=ed m;simp at this;omega
    simp only[w8,a,this,Bool.and_false]
   simp only[rK,fM,jZ,C,D,hi,K,h,t,h1,h2,h3,h4,Bool.and_true,a,k,I,l,F,y,m,eC,G,H,b.1,b.2]
   congr 3
   simp[e]
end
variable {α : Type}
noncomputable def Qa (e:Bool)(t f:Option α):Option α:=if e then(match t,f with
 | some a,some b=>(open Classical in if a=b then some a else none)
 | _,_=>none) else f
theorem aqa {e:Bool}{t f:Option α}{r:α}(h:Qa e t f=some r):f=some r∧(e=true→t=some r):=by
 unfold Qa at h
 cases e with
 | false=>exact⟨h,fun q=>by simp at q⟩
 | true=>
   simp only[if_true] at h
   split at h
   · rename_i a b
     split at h
     · rename_i c;subst c;exact⟨h,fun _=>h⟩
     · simp at h
   · simp at h
def Zz (P:Program)(s:St):Option (List AV):=
 match s with
 | .run fn F S k=>match cO (.run fn F S k) with
   | some o=>match o.op with
     | .binOp .eql t x y _=>match F.eval x,F.eval y,P.underlying t with
       | some (.lit es),some .ax,some (.slice _)=>some es
       | _,_,_=>none
     | _=>none
   | none=>none
 | _=>none
theorem BA {d:Nat}{t e:TypeId}{m:Nat}(a:P.underlying t=some (.slice e)):(Op.equalIn (d+1) t (.slice none m n) (.slice none 0 0)).run P w=.ok true w:=by
 simp[Op.equalIn,ag a]
def abz : St→Bool
 | .run _ _ _ k=>flat k
 | _=>false
variable {s : St}
theorem acA {T:FT}{Q:gI→af→Prop}(E:bL T P)(n:Nat)(es:List AV)(h:Zz P (ab T P n s)=some es)(l:abz (ab T P n s)=true)(O:es=[]→SX P Q (aF (.sc (.bool true)) none (ab T P n s)))(R:SX P Q (aF (.sc (.bool false)) none (ab T P n s))):SX P Q s:=by
 refine⟨bP E.ok E.mix n ?_⟩
 generalize ab T P n s=s at h O R l
 unfold Zz at h
 split at h<;>try (simp at h;done)
 rename_i fn F S k
 split at h<;>try (simp at h;done)
 rename_i o hn
 split at h<;>try (simp at h;done)
 rename_i t x y yt c
 split at h<;>simp only[an,reduceCtorEq] at h
 rename_i es' el hx hy U
 subst h
 obtain⟨hm,all,i,rest,td,V,d,hg⟩:=u3 hn
 have st:∀ b,aF (.sc (.bool b)) none (.run fn F S k)=.run fn (F.after o (.sc (.bool b)) all rest td) S k:=by
  intro b;simp only[aF,V,vH,d,gy]
 have z:es' = []→aA P Q (.run fn (F.after o (.sc (.bool true)) all rest td) S k):=fun e=>by rw[←st];exact(O e).out
 have p:aA P Q (.run fn (F.after o (.sc (.bool false)) all rest td) S k):=by rw[←st];exact R.out
 have r:=fh.all (P:=P) (Qf:=Q) (k:=k) (ι:=Bool) (A:=fun b q=>(b=true→es' = [])→Reach P (F.after o (.sc (.bool b)) all rest td) S (GK P k fn q)) l fun b=>by
  cases b with
  | false=>exact fh.mono (fun q j _=>j) p
  | true=>
    by_cases W:es' = []
    · exact fh.mono (fun q j _=>j) (z W)
    · exact fh.mono (fun q _ hh=>absurd (hh rfl) W) p
 refine fh.mono (fun q j=>?_) r
 intro g w fr B cs f C hi
 obtain⟨m,X,e2⟩:=f.split V
 have Y:=DT.of f x _ hx
 have Z:=DT.of f y _ hy
 obtain ⟨b,hb,u⟩:∃ b:Bool,(b=true→es' = [])∧(execOp fr.eval o).run P w=.ok (.value (.bool b)) w:=by
  obtain⟨D,op,ty,G,after,guard⟩:=o
  simp only at c
  subst c
  generalize H:fr.eval x=xv at Y
  generalize I:fr.eval y=yv at Z
  cases Z with | ax=>?_
  have fin:∀(a:Option Addr) (len cap:Nat),(len≠0→a≠none)→xv=.slice a len cap→∃ b:Bool,(b=true→len=0∨a=none)∧(execOp fr.eval ⟨D,.binOp .eql t x y yt,ty,G,after,guard⟩).run P w=.ok (.value (.bool b)) w:=by
    intro a len cap _ e
    have:∃ b:Bool,(b=true→a=none)∧(Op.equalIn (9999+1) t (.slice a len cap) (.slice none 0 0)).run P w=.ok b w:=by
     cases a with
     | none=>exact⟨true,fun _=>rfl,BA U⟩
     | some a=>exact⟨false,fun h=>by simp at h,rH U⟩
    obtain⟨b,h1,h2⟩:=this
    refine⟨b,fun h=>.inr (h1 h),?_⟩
    have h2:(Op.equal t (.slice a len cap) (.slice none 0 0)).run P w=.ok b w:=h2
    have J:(eqGuard .eql t x y (.slice a len cap) (.slice none 0 0)).run P w=.ok () w:=by unfold eqGuard;split<;>simp
    subst e
    simp[execOp,Sem.run_bind,H,I,J,binOp,h2]
  cases Y with
  | lit hr hs hb hcap hh=>
    obtain⟨b,h1,h2⟩:=fin _ _ _ (fun _=>by simp) rfl
    refine⟨b,fun e=>?_,h2⟩
    rcases h1 e with q | q
    · exact List.length_eq_zero_iff.1 q
    · simp at q
  | gi=>
    obtain⟨b,_,h2⟩:=fin _ 0 _ (fun h=>absurd rfl h) rfl
    exact⟨b,fun _=>rfl,h2⟩
 obtain⟨x1,x2,x3,x4⟩:=F.gP o (.sc (.bool b)) all rest td
 have K:bG o.op=false:=by rw[c];rfl
 have L:=vS (P:=P) (cs:=cs) (fO (f.runs hm) X d (ka f hg) (.inr K)) u
 obtain⟨F2,S2,g2,w2,M,N,q', r1,r2,r3,r4,r5,r6,r7,r8⟩:=j b hb g w (fr.finish (.bool b)) B cs (f.after X e2 d (.sc rfl)) (C.congr x1 x4) hi
 exact⟨F2,S2,g2,w2,M,N,q', r1,r2,r3.trans x1,r4.trans x2,r5.trans x3,r6,r7,Steps.head L r8⟩
end
end Go.Eng
namespace Go.Eng
noncomputable section
def s9 (S:af):List Nat→af
 | []=>S
 | id::r=>(s9 S r).del id
theorem oe (S:af):∀(l:List Nat) (id:Nat),(s9 S l).get id=if id∈l then none else S.get id:=by
 intro l
 induction l with
 | nil=>intro id;simp[s9]
 | cons a l b=>
   intro id
   simp only[s9]
   by_cases e:id=a
   · subst e;rw[af.fi,if_pos (List.mem_cons_self ..)]
   · rw[af.bQ (nf _) e,b]
     by_cases h:id∈l
     · rw[if_pos h,if_pos (tf _ h)]
     · rw[if_neg h,if_neg (by simp[e,h])]
theorem zl (S:af):∀ l,(s9 S l).nx=S.nx∧(s9 S l).lim=S.lim:=by
 intro l
 induction l with
 | nil=>exact⟨rfl,rfl⟩
 | cons a l b=>exact b
inductive gJ (S : af) (kp : List Nat) : AV → AV → Prop
 | pure {v : AV} (h : aq v = true) : gJ S kp v v
 | ax : gJ S kp .ax (.lit [])
 | dV : gJ S kp .dV (.lit [])
 | ak {id len sz : Nat} {es es' : List AV} (hk : id ∉ kp) (hg : S.get id = some (.arr sz es)) (hl : len = es.length) (hs : es'.length = es.length)
  (hc : ∀ (i : Nat) (e e' : AV), es[i]? = some e → es'[i]? = some e' → e'.cells.length = e.cells.length)
  (h : ∀ (i j : Nat) (e e' a a' : AV), es[i]? = some e → es'[i]? = some e' → e.cells[j]? = some a → e'.cells[j]? = some a' → gJ S kp a a') : gJ S kp (.ak id 0 len) (.lit es')
 | BW {id j o l : Nat} (h : kp[j]? = some id) : gJ S kp (.ak id o l) (.ak j o l)
 | n4 {id j i c : Nat} (h : kp[j]? = some id) : gJ S kp (.ptr id i c) (.ptr j i c)
 | BX {id j : Nat} (h : kp[j]? = some id) : gJ S kp (.dm id) (.dm j)
 | BY {id j : Nat} (h : kp[j]? = some id) : gJ S kp (.nU id) (.nU j)
 | agg {cs cs' : List AV} (hl : cs'.length = cs.length) (h : ∀ (k : Nat) (a a' : AV), cs[k]? = some a → cs'[k]? = some a' → gJ S kp a a') : gJ S kp (.agg cs) (.agg cs')
 | bM {cs cs' : List AV} (hl : cs'.length = cs.length) (h : ∀ (k : Nat) (a a' : AV), cs[k]? = some a → cs'[k]? = some a' → gJ S kp a a') : gJ S kp (.bM cs) (.bM cs')
 | eS {t : TypeId} {v v' : AV} (h : gJ S kp v v') : gJ S kp (.eS t v) (.eS t v')
 | fn {f : Fn} {cs cs' ds ds' : List AV} (hl : cs'.length = cs.length) (h : ∀ (k : Nat) (a a' : AV), cs[k]? = some a → cs'[k]? = some a' → gJ S kp a a')
  (hl2 : ds'.length = ds.length) (h2 : ∀ (k : Nat) (a a' : AV), ds[k]? = some a → ds'[k]? = some a' → gJ S kp a a') : gJ S kp (.fn f cs ds) (.fn f cs' ds')
inductive dn (S : af) (kp : List Nat) : List AV → List AV → Prop
 | nil : dn S kp [] []
 | cons {e e' : AV} {l l' : List AV} (h : gJ S kp e e') (t : dn S kp l l') : dn S kp (e :: l) (e' :: l')
variable {S : af} {kp : List Nat} {l l' : List AV}
theorem dn.spec (h:dn S kp l l'):l'.length=l.length∧∀(i:Nat) (e b:AV),l[i]? = some e→l'[i]? = some b→gJ S kp e b:=by
 induction h with
 | nil=>exact⟨rfl,fun i e b h=>by simp at h⟩
 | cons h t f=>
   refine⟨by simp[f.1],fun i e b c d=>?_⟩
   cases i with
   | zero=>simp at c d;subst c;subst d;exact h
   | succ i=>exact f.2 i e b (by simpa using c) (by simpa using d)
theorem gJ.uQ {e q:AV}(h:gJ S kp e q):q.cells.length=e.cells.length∧∀(j:Nat) (a g:AV),e.cells[j]? = some a→q.cells[j]? = some g→gJ S kp a g:=by
 have one:∀ {u m:AV},u.cells=[u]→m.cells=[m]→gJ S kp u m→m.cells.length=u.cells.length∧∀(j:Nat) (a g:AV),u.cells[j]? = some a→m.cells[j]? = some g→gJ S kp a g:=by
  intro u m h1 h2 t
  rw[h1,h2]
  refine⟨rfl,fun j a g n p=>?_⟩
  cases j with
  | zero=>simp at n p;subst n;subst p;exact t
  | succ j=>simp at n
 cases h with
 | pure h=>exact⟨rfl,fun j a g n p=>by rw[n] at p;simp only[an] at p;subst p;exact .pure (jL h n)⟩
 | ax=>exact one rfl rfl .ax
 | dV=>exact one rfl rfl .dV
 | ak a b c d e f=>exact one rfl rfl (.ak a b c d e f)
 | BW h=>exact one rfl rfl (.BW h)
 | n4 h=>exact one rfl rfl (.n4 h)
 | BX h=>exact one rfl rfl (.BX h)
 | BY h=>exact one rfl rfl (.BY h)
 | agg s h=>exact⟨s,h⟩
 | bM s h=>exact one rfl rfl (.bM s h)
 | eS h=>exact one rfl rfl (.eS h)
 | fn a b c d=>exact one rfl rfl (.fn a b c d)
variable {id : Nat}
theorem gJ.Qb {j o l l' : Nat}(h:kp[j]? = some id)(b:l=l'):gJ S kp (.ak id o l) (.ak j o l'):=by subst b;exact .BW h
variable {len sz : Nat} {es es' : List AV}
theorem gJ.P7 (c:id∉kp)(d:S.get id=some (.arr sz es))(f:len=es.length)(h:dn S kp es es'):gJ S kp (.ak id 0 len) (.lit es'):=
 .ak c d f h.spec.1 (fun i e b p q=>(h.spec.2 i e b p q).uQ.1) (fun i j e b a g p q r s=>(h.spec.2 i e b p q).uQ.2 j a g r s)
theorem gJ.zD (b:id∉kp)(c:S.get id=some (.arr sz es))(d:len=es.length)(f:bF es=true):gJ S kp (.ak id 0 len) (.lit es):=
 .ak b c d rfl (fun i e g p q=>by rw[p] at q;simp only[an] at q;rw[q]) (fun i j e g a h p q r s=>by
  rw[p] at q;simp only[an] at q;subst q
  rw[r] at s;simp only[an] at s;subst s
  exact .pure (jL (dS f p) r))
theorem gJ.QY (h:dn S kp l l'):gJ S kp (.agg l) (.agg l'):=.agg h.spec.1 h.spec.2
theorem gJ.uH (h:dn S kp l l'):gJ S kp (.bM l) (.bM l'):=.bM h.spec.1 h.spec.2
theorem gJ.Qw {f:Fn}{m b:List AV}(h:dn S kp l l')(k:dn S kp m b):gJ S kp (.fn f l m) (.fn f l' b):=.fn h.spec.1 h.spec.2 k.spec.1 k.spec.2
theorem gJ.aw {σ:Nat→Nat}(t:∀ a b,σ a=σ b→a=b){S A:af}{kp:List Nat}(B:yf σ S A){v v' : AV}(h:gJ S kp v v'):gJ A (kp.map σ) (v.aw σ) v' := by
 have key:∀ {l:List AV} {k:Nat} {a:AV},(dE σ l)[k]? = some a→∃ b,l[k]? = some b∧a=b.aw σ:=by
   intro l k a e
   rw[hP] at e
   cases u:l[k]? with
   | none=>rw[u] at e;simp at e
   | some b=>rw[u] at e;simp at e;exact⟨b,rfl,e.symm⟩
 have m:∀ {j id:Nat},kp[j]? = some id→(kp.map σ)[j]? = some (σ id):=by intro j id e;rw[List.getElem?_map,e];rfl
 induction h with
 | pure h=>rw[AV.hZ h];exact .pure h
 | ax=>rw[AV.aw];exact .ax
 | dV=>rw[AV.aw];exact .dV
 | ak C D n x E h f=>
   rw[AV.aw]
   refine .ak (fun F=>?_) (B.get _ _ D) (by rw[az];exact n) (by rw[az];exact x) (fun i e w p q=>?_) (fun i j e w a g p q r s=>?_)
   · obtain⟨b,u,e⟩:=List.mem_map.1 F
     have:=t _ _ e
     subst this;exact C u
   · obtain⟨b,d,rfl⟩:=key p
     rw[AV.fA,az]
     exact E i b w d q
   · obtain⟨b,d,rfl⟩:=key p
     rw[AV.fA] at r
     obtain⟨c,G,rfl⟩:=key r
     exact f i j b w c g d q G s
 | BW h=>rw[AV.aw];exact .BW (m h)
 | n4 h=>rw[AV.aw];exact .n4 (m h)
 | BX h=>rw[AV.aw];exact .BX (m h)
 | BY h=>rw[AV.aw];exact .BY (m h)
 | agg n h f=>
   rw[AV.aw]
   refine .agg (by rw[az];exact n) fun k a g p q=>?_
   obtain⟨b,d,rfl⟩:=key p
   exact f k b g d q
 | bM n h f=>
   rw[AV.aw]
   refine .bM (by rw[az];exact n) fun k a g p q=>?_
   obtain⟨b,d,rfl⟩:=key p
   exact f k b g d q
 | eS h f=>rw[AV.aw];exact .eS f
 | fn n h y h2 f z=>
   rw[AV.aw]
   refine .fn (by rw[az];exact n) (fun k a g p q=>?_) (by rw[az];exact y) (fun k a g p q=>?_)
   · obtain⟨b,d,rfl⟩:=key p
     exact f k b g d q
   · obtain⟨b,d,rfl⟩:=key p
     exact z k b g d q
variable {v v' : AV}
theorem gJ.sound {g U F:Gh}{w:World}(hi:Inv S g w)(V:Gh.frozen (s9 S kp) g w U)(W:F.ro=U.ro)(z:∀ j id,kp[j]? = some id→F.ph j=g.ph id)(h:gJ S kp v v'):∀ {x:Value},VR g v x→VR F v' x:=by
 have K:Gh.le g.bare F:=⟨fun b c e=>by rw[W];exact V.1.ro b c e,fun _ _ e=>by simp[Gh.bare] at e⟩
 induction h with
 | pure h=>intro x m;exact(m.bare h).mono K
 | ax=>intro x m;cases m;exact .gi
 | dV=>intro x m;cases m;exact .gi
 | ak L A q D X h y=>
   intro x m
   cases m with
   | ak p s E=>
     rename_i l
     obtain⟨l', I,q2,Y⟩:=hi.ob _ _ A
     rw[p] at I;simp only[an] at I;subst I
     obtain⟨c,t,Z,p2,J,p4,p5,p6⟩:=Y
     have M:=V.2.2 _ _ l c t (0,0) (by rw[oe,if_neg L];exact A) p Z
     rename_i es es' cap
     subst q
     rw[←D]
     have:VR F (.lit es') (.slice (some ⟨l.bO,l.base+0*l.sz,none⟩) es'.length cap):=by
       refine .lit (sz:=l.sz) (by rw[W];exact M) (fun e he=>?_) (by rw[D,J];omega) (by rw[D];exact s) (fun i j e a x n u e3=>?_)
       · obtain⟨k,z⟩:=List.getElem?_of_mem he
         have f:k<es.length:=by rw[←D];exact(List.getElem?_eq_some_iff.1 z).1
         have d:es[k]? = some es[k]:=nA f
         rw[X k _ e d z,J]
         exact p5 _ (List.getElem_mem f)
       · have f:i<es.length:=by rw[←D];exact(List.getElem?_eq_some_iff.1 n).1
         have d:es[i]? = some es[i]:=nA f
         have N:j<es[i].cells.length:=by rw[←X i _ e d n];exact(List.getElem?_eq_some_iff.1 u).1
         have G:es[i].cells[j]? = some es[i].cells[j]:=nA N
         exact y i j _ e _ a d n G u (p6 i j _ _ x d G (by rw[←J,←e3];congr 1;omega))
     exact this
   | fI=>
     obtain rfl:=List.length_eq_zero_iff.1 (D.trans q.symm)
     exact .gi
 | BW h=>
   intro x m
   cases m with
   | ak p s E=>exact .ak (by rw[z _ _ h];exact p) s E
   | fI p E=>exact .fI (by rw[z _ _ h];exact p) E
 | n4 h=>intro x m;cases m with | ptr p=>exact .ptr (by rw[z _ _ h];exact p)
 | BX h=>intro x m;cases m with | dm p=>exact .dm (by rw[z _ _ h];exact p)
 | BY h=>intro x m;cases m with | nU p=>exact .nU (by rw[z _ _ h];exact p)
 | agg q h y=>
   intro x m
   cases m with
   | agg B hh=>
     refine .agg (by rw[q];exact B) fun k a x n u=>?_
     rename_i cs C xs
     have f:k<cs.length:=by rw[←q];exact(List.getElem?_eq_some_iff.1 n).1
     have d:cs[k]? = some cs[k]:=nA f
     exact y k _ a d n (hh k _ x d u)
 | bM q h y=>
   intro x m
   cases m with
   | bM B hh=>
     refine .bM (by rw[q];exact B) fun k a x n u=>?_
     rename_i cs C xs
     have f:k<cs.length:=by rw[←q];exact(List.getElem?_eq_some_iff.1 n).1
     have d:cs[k]? = some cs[k]:=nA f
     exact y k _ a d n (hh k _ x d u)
 | eS h y=>intro x m;cases m with | eS hh=>exact .eS (y hh)
 | fn q h H h2 y O=>
   intro x m
   cases m with
   | fn hx hy ha E=>
     refine .fn (by rw[q];exact hx) (by rw[H];exact hy) (fun k a x n u=>?_) (fun k a x n u=>?_)
     · rename_i cs C ds R xs ys
       have f:k<cs.length:=by rw[←q];exact(List.getElem?_eq_some_iff.1 n).1
       have d:cs[k]? = some cs[k]:=nA f
       exact y k _ a d n (ha k _ x d u)
     · rename_i cs C ds R xs ys
       have f:k<ds.length:=by rw[←H];exact(List.getElem?_eq_some_iff.1 n).1
       have d:ds[k]? = some ds[k]:=nA f
       exact O k _ a d n (E k _ x d u)
inductive qO (S : af) (kp : List Nat) : ai → ai → Prop
 | arr {sz : Nat} {es es' : List AV} (hs : es'.length = es.length) (hc : ∀ (i : Nat) (e e' : AV), es[i]? = some e → es'[i]? = some e' → e'.cells.length = e.cells.length)
  (h : ∀ (i j : Nat) (e e' a a' : AV), es[i]? = some e → es'[i]? = some e' → e.cells[j]? = some a → e'.cells[j]? = some a' → gJ S kp a a') : qO S kp (.arr sz es) (.arr sz es')
 | mp {kvs kvs' : List (AV × AV)} (hs : kvs'.length = kvs.length) (h : ∀ (i : Nat) (p p' : AV × AV), kvs[i]? = some p → kvs'[i]? = some p' → gJ S kp p.1 p'.1 ∧ gJ S kp p.2 p'.2) : qO S kp (.mp kvs) (.mp kvs')
 | df {o : Bool} : qO S kp (.df o) (.df o)
 | lp {st : LoopState} {pending : Option Code} {fn : FuncId} {n mask : Nat} {env env' : List (Nat × AV)} {params : List Tmp} {assign body : Code} (h : ∀ t v', lk env' t = some v' → ∃ v, lk env t = some v ∧ gJ S kp v v') :
  qO S kp (.lp st pending fn n mask env params assign body) (.lp st pending fn n mask env' params assign body)
theorem qO.ZA (h:dn S kp es es'):qO S kp (.arr sz es) (.arr sz es'):=
 .arr h.spec.1 (fun i e b p q=>(h.spec.2 i e b p q).uQ.1) (fun i j e b a c p q r s=>(h.spec.2 i e b p q).uQ.2 j a c r s)
theorem qO.ZB (b:bF es=true):qO S kp (.arr sz es) (.arr sz es):=
 .arr rfl (fun i e c p q=>by rw[p] at q;simp only[an] at q;rw[q]) (fun i j e c a d p q r s=>by
  rw[p] at q;simp only[an] at q;subst q
  rw[r] at s;simp only[an] at s;subst s
  exact .pure (jL (dS b p) r))
def Ih (b:List (AV×AV)):Bool:=b.all fun p=>aq p.1&&aq p.2
theorem qO.aqn {b:List (AV×AV)}(d:Ih b=true):qO S kp (.mp b) (.mp b):=
 .mp rfl fun i p f e c=>by
  rw[e] at c;simp only[an] at c;subst c
  have:=List.all_eq_true.1 d p (sq e)
  simp only[Bool.and_eq_true] at this
  exact⟨.pure this.1,.pure this.2⟩
theorem qO.aw {σ:Nat→Nat}(d:∀ a b,σ a=σ b→a=b){S x:af}{kp:List Nat}(n:yf σ S x){o o' : ai}(h:qO S kp o o'):qO x (kp.map σ) (o.aw σ) o' := by
 have key:∀ {l:List AV} {k:Nat} {a:AV},(dE σ l)[k]? = some a→∃ b,l[k]? = some b∧a=b.aw σ:=by
   intro l k a e
   rw[hP] at e
   cases f:l[k]? with
   | none=>rw[f] at e;simp at e
   | some b=>rw[f] at e;simp at e;exact⟨b,rfl,e.symm⟩
 cases h with
 | arr u z h=>
   refine .arr (by rw[az];exact u) (fun i e g p q=>?_) (fun i j e g a A p q r s=>?_)
   · obtain⟨b,m,rfl⟩:=key p
     rw[AV.fA,az]
     exact z i b g m q
   · obtain⟨b,m,rfl⟩:=key p
     rw[AV.fA] at r
     obtain⟨c,B,rfl⟩:=key r
     exact(h i j b g c A m q B s).aw d n
 | mp u h=>
   refine .mp (by simpa using u) fun i p m e g=>?_
   rw[List.getElem?_map] at e
   rename_i w y
   cases f:w[i]? with
   | none=>rw[f] at e;simp at e
   | some b=>
     rw[f] at e;simp at e;subst e
     have:=h i b m f g
     exact⟨this.1.aw d n,this.2.aw d n⟩
 | df=>exact .df
 | lp h=>
   refine .lp fun t v' e=>?_
   obtain⟨v,C,D⟩:=h t v' e
   exact⟨v.aw σ,by rw[zh,C];rfl,D.aw d n⟩
theorem qO.sound {S:af}{kp:List Nat}{g E C:Gh}{w:World}(hi:Inv S g w)(u:Gh.frozen (s9 S kp) g w E)(z:C.ro=E.ro)(A:∀ j id,kp[j]? = some id→C.ph j=g.ph id){o o' : ai}(h:qO S kp o o'){l:Loc}{x:Option Obj}(B:rI g l x o):rI C l x o' := by
 cases h with
 | arr n F h=>
   rename_i sz es es'
   obtain⟨c,t,h1,h2,h3,h4,h5,h6⟩:=B
   refine⟨c,t,h1,h2,h3,by rw[n];exact h4,fun e H=>?_,fun i j e a y p q r=>?_⟩
   · obtain⟨i,hi⟩:=List.getElem?_of_mem H
     have f:i<es.length:=by rw[←n];exact(List.getElem?_eq_some_iff.1 hi).1
     have d:es[i]? = some es[i]:=nA f
     rw[F i _ e d hi]
     exact h5 _ (List.getElem_mem f)
   · have f:i<es.length:=by rw[←n];exact(List.getElem?_eq_some_iff.1 p).1
     have d:es[i]? = some es[i]:=nA f
     have D:j<es[i].cells.length:=by rw[←F i _ e d p];exact(List.getElem?_eq_some_iff.1 q).1
     have s:es[i].cells[j]? = some es[i].cells[j]:=nA D
     exact(h i j _ e _ a d p s q).sound hi u z A (h6 i j _ _ y d s r)
 | mp n h=>
   rename_i m G
   obtain⟨es,k,h1,h2,h3,h4⟩:=B
   refine⟨es,k,h1,by rw[n];exact h2,fun i I e p q=>?_,h4⟩
   have f:i<m.length:=by rw[←n];exact(List.getElem?_eq_some_iff.1 p).1
   have d:m[i]? = some m[i]:=nA f
   have a:=h i _ I d p
   have b:=h3 i _ e d q
   exact⟨a.1.sound hi u z A b.1,a.2.sound hi u z A b.2⟩
 | df=>exact B
 | lp h=>
   obtain⟨lo,h1,h2,h3,h4,h5,h6,h7,h8,h9⟩:=B
   refine⟨lo,h1,h2,h3,h4,h5,fun t v' e=>?_,h7,h8,h9⟩
   obtain⟨v,J,K⟩:=h t v' e
   obtain⟨x,a,b⟩:=h6 t v J
   exact⟨x,a,K.sound hi u z A b⟩
def rL (ids:List Nat)(nx i:Nat):Nat:=
 match ids[i]? with
 | some a=>a
 | none=>nx+(i-ids.length)
def qm (S:af):List (Nat×Option ai)→af
 | []=>S
 | (id,some o)::r=>(qm S r).set id o
 | (id,none)::r=>(qm S r).del id
theorem wa (S:af):∀ l,(qm S l).nx=S.nx∧(qm S l).lim=S.lim:=by
 intro l
 induction l with
 | nil=>exact⟨rfl,rfl⟩
 | cons p l b=>obtain⟨id,o⟩:=p;cases o<;>exact b
variable {a : Nat}
theorem xV : ∀ {l:List (Nat×Option ai)},(∀ p,p∈l→p.1≠a)→(qm S l).get a=S.get a:=by
 intro l
 induction l with
 | nil=>intro _;rfl
 | cons p l d=>
   intro h
   obtain⟨id,o⟩:=p
   have b:a≠id:=fun e=>h (id,o) (List.mem_cons_self ..) e.symm
   cases o with
   | some o=>simp only[qm];rw[af.ar (nf _) b];exact d fun p c=>h p (tf _ c)
   | none=>simp only[qm];rw[af.bQ (nf _) b];exact d fun p c=>h p (tf _ c)
theorem Cg : ∀ {l:List (Nat×Option ai)},(l.map (·.1)).Nodup→∀ id o,(id,o)∈l→(qm S l).get id=o:=by
 intro l
 induction l with
 | nil=>intro _ id o h;simp at h
 | cons p l d=>
   intro c id o h
   obtain⟨k,x⟩:=p
   simp only[List.map_cons,List.nodup_cons] at c
   rcases List.mem_cons.1 h with e | e
   · simp only[gU] at e;obtain⟨rfl,rfl⟩:=e
     cases o with
     | some o=>exact af.bn (nf _)
     | none=>exact af.fi ..
   · have b:id≠k:=by rintro rfl;exact c.1 (List.mem_map.2 ⟨_,e,rfl⟩)
     cases x with
     | some x=>simp only[qm];rw[af.ar (nf _) b];exact d c.2 id o e
     | none=>simp only[qm];rw[af.bQ (nf _) b];exact d c.2 id o e
def uI (S:af):List ai→af
 | []=>S
 | o::r=>uI (S.add o) r
theorem zm : ∀(l:List ai) (S:af),(uI S l).nx=S.nx+l.length∧(uI S l).lim=S.lim:=by
 intro l
 induction l with
 | nil=>intro S;exact⟨rfl,rfl⟩
 | cons o l c=>
   intro S
   obtain⟨a,b⟩:=c (S.add o)
   refine⟨?_,b⟩
   simp only[uI]
   rw[a]
   show S.nx+1+l.length=S.nx+(l.length+1)
   omega
theorem wb : ∀(l:List ai) (S:af) (a:Nat),(uI S l).get a=if S.nx≤a∧a-S.nx<l.length then l[a-S.nx]? else S.get a:=by
 intro l
 induction l with
 | nil=>intro S a;simp[uI]
 | cons o l c=>
   intro S a
   simp only[uI]
   rw[c]
   have b:(S.add o).nx=S.nx+1:=rfl
   rw[b]
   by_cases h1:S.nx+1≤a∧a-(S.nx+1)<l.length
   · rw[if_pos h1,if_pos ⟨by omega,by simp;omega⟩]
     rw[show a-S.nx=(a-(S.nx+1))+1 from by omega]
     simp
   · rw[if_neg h1]
     by_cases h2:a=S.nx
     · subst h2
       rw[af.kW (nf _),if_pos ⟨Nat.le_refl _,by simp⟩]
       simp
     · rw[af.dj (nf _) h2]
       rw[if_neg]
       rintro⟨h3,h4⟩
       simp only[List.length_cons] at h4
       exact h1 ⟨by omega,by omega⟩
def RG (k:Nat)(v' : AV)(jB:List (Option ai))(add:List ai):gI→af→Prop:=fun r S=>∃ v kp,r=.ret v∧kp.Nodup∧kp.length=k+add.length∧(∀ i,i<k→kp[i]? = some i)∧gJ S kp v v' ∧
 (∀(i:Nat) (o' : ai),jB[i]? = some (some o')→∃ o,S.get i=some o∧qO S kp o o')∧∀(i:Nat) (o' : ai),add[i]? = some o' → ∃ id o,kp[k+i]? = some id∧S.get id=some o∧qO S kp o o'
variable {k : Nat} {jB : List (Option ai)} {add : List ai}
theorem abA (q:jB.length=k):tM k (RG k v' jB add):=by
 rintro σ c d r S x ⟨v,kp,rfl,p,g,j,s,t,u⟩ f
 refine⟨v.aw σ,kp.map σ,rfl,?_,by simpa using g,fun i hi=>?_,s.aw c f,fun i o' e=>?_,fun i o' e=>?_⟩
 · exact p.map σ fun a b h e=>h (c _ _ e)
 · rw[List.getElem?_map,j i hi,Option.map_some,d i hi]
 · obtain⟨o,m,n⟩:=t i o' e
   have hi:i<k:=by rw[←q];exact(List.getElem?_eq_some_iff.1 e).1
   exact⟨o.aw σ,by have:=f.get i o m;rwa [d i hi] at this,n.aw c f⟩
 · obtain⟨id,o,w,m,n⟩:=u i o' e
   exact⟨σ id,o.aw σ,by rw[List.getElem?_map,w];rfl,f.get id o m,n.aw c f⟩
variable {args : List AV} {olds : List ai}
theorem cL.gen {P:Program}{f:FuncId}{S0:af}{J:List (Option ai)}(h:cL P f args S0 (RG k v' jB add))(hko:k≤olds.length)(hpad:∀ o,o∈J→o=none)(hpl:k+J.length=olds.length)(h0:∀ i:Nat,S0.get i=olds[i]?)(h1:S0.nx=olds.length)(h2:S0.lim=0)(hl:jB.length=k){ids:List Nat}(hlim:S.lim≤S.nx)(hi:ids.length=olds.length)(hn:ids.Nodup)(hS:∀(i a:Nat) (o:ai),ids[i]? = some a→olds[i]? = some o→S.get a=some (o.aw (rL ids S.nx))∧S.lim≤a) :
   cL P f (dE (rL ids S.nx) args) S fun r X=>r=.ret (v'.aw (rL (ids.take k) S.nx))∧X=uI (qm S (ids.zip (jB.map (Option.map (ai.aw (rL (ids.take k) S.nx)))++J))) (add.map (ai.aw (rL (ids.take k) S.nx))):=by
 intro g2 w xs hx n
 obtain⟨σ,hσ⟩:∃ σ,σ=rL ids S.nx:=⟨_,rfl⟩
 obtain⟨τ,hτ⟩:∃ τ,τ=rL (ids.take k) S.nx:=⟨_,rfl⟩
 rw[←hσ] at hx hS
 rw[←hτ]
 have htk:(ids.take k).length=k:=by simp;omega
 obtain⟨g,hg⟩:∃ g:Gh,g={ ro:=g2.ro,ph:=fun id=>g2.ph (σ id) }:=⟨_,rfl⟩
 have C:iK σ g g2:=by rw[hg];exact⟨rfl,fun _=>rfl⟩
 have G:∀(i a:Nat),ids[i]? = some a→σ i=a:=by intro i a e;rw[hσ];simp[rL,e]
 have hhigh0:∀ i:Nat,olds.length≤i→S.nx≤σ i:=by
   intro i e
   have:ids[i]? = none:=List.getElem?_eq_none (by rw[hi];exact e)
   rw[hσ];simp only[rL,this];omega
 have tlow:∀(i a:Nat),i<k→ids[i]? = some a→τ i=a:=by
   intro i a V e
   have:(ids.take k)[i]? = some a:=by rw[List.getElem?_take,if_pos V];exact e
   rw[hτ];simp[rL,this]
 have hhigh:∀ i:Nat,k≤i→τ i=S.nx+(i-k):=by
   intro i e
   have:(ids.take k)[i]? = none:=List.getElem?_eq_none (by rw[htk];exact e)
   rw[hτ];simp only[rL,this,htk]
 have M:∀(i:Nat) (o:ai),olds[i]? = some o→∃ a,ids[i]? = some a:=by
   intro i o e
   have:i<ids.length:=by rw[hi];exact(List.getElem?_eq_some_iff.1 e).1
   exact⟨_,nA this⟩
 have hinj:∀(i j a:Nat),ids[i]? = some a→ids[j]? = some a→i=j:=by
   intro i j a e E
   have K:=(List.getElem?_eq_some_iff.1 e).1
   exact(List.getElem?_inj K hn).1 (e.trans E.symm)
 have W:∀(i a:Nat),ids[i]? = some a→∃ o,olds[i]? = some o∧S.get a=some (o.aw σ)∧S.lim≤a:=by
   intro i a e
   have m:i<olds.length:=by rw[←hi];exact(List.getElem?_eq_some_iff.1 e).1
   have ho:olds[i]? = some olds[i]:=nA m
   exact⟨_,ho,hS i a _ e ho⟩
 have idlt:∀(i a:Nat),ids[i]? = some a→a<S.nx:=by
   intro i a e
   obtain⟨o,_,q,_⟩:=W i a e
   exact n.iZ q
 have hinv0:Inv S0 g w:=by
   refine⟨fun b c e=>n.ro b c (by rw[←C.ro];exact e),fun id o e=>?_,fun id O o o' l l' e E p p' q=>?_,fun id aH=>?_⟩
   · rw[h0] at e
     obtain⟨a,s⟩:=M id o e
     obtain⟨A,F⟩:=hS id a o s e
     obtain⟨l,x,y,z⟩:=n.ob a _ A
     exact⟨l,by rw[C.ph,G id a s];exact x,by rw[C.ro];exact y,z.gx C⟩
   · rw[h0] at e E
     obtain⟨a,s⟩:=M id o e
     obtain⟨a', ha'⟩:=M O o' E
     have:=n.inj a a' _ _ l l' (hS id a o s e).1 (hS O a' o' ha' E).1 (by rw[←G id a s,←C.ph];exact p) (by rw[←G O a' ha', ←C.ph];exact p') q
     subst this
     exact hinj id O a s ha'
   · rw[h1] at aH
     rw[C.ph]
     exact n.fresh _ (hhigh0 id aH)
 refine(h g w xs (hx.gx C) hinv0).mono fun e w' ⟨r,X,g', ⟨v,kp,hr,hnd,hlen,hkl,hf,hupd,hadd⟩,hres,K,D⟩=>?_
 subst hr
 have hsub:af.sub (s9 X kp) X:=⟨(zl X kp).1.symm,(zl X kp).2,fun id o e=>by rw[oe] at e;split at e<;>first | simp at e | exact e⟩
 have V:Inv (s9 X kp) g' w' := K.sub hsub
 have hfz:=Gh.gQ V
 have H:∀ b c,(g'.freeze (s9 X kp) w').ro b=some c→g'.ro b=some c∨(∃ t fz,w'.heap[b]? = some (.cells c t fz))∧∃ id o l,(s9 X kp).get id=some o∧g'.ph id=some l∧l.bO=b:=by
   intro b c e
   simp only[Gh.freeze] at e
   split at e
   · rename_i c' hc;simp only[an] at e;subst e;exact .inl hc
   · split at e
     · rename_i c' t fz hh
       split at e<;>simp only[an,reduceCtorEq] at e
       rename_i hex
       subst e;exact .inr ⟨⟨t,fz,hh⟩,hex⟩
     · simp at e
 obtain⟨gf,hgf⟩:∃ gf,gf=g'.freeze (s9 X kp) w' := ⟨_,rfl⟩
 rw[←hgf] at hfz H
 obtain⟨gk,hgk⟩:∃ gk:Gh,gk={ ro:=gf.ro,ph:=fun j=>match kp[j]? with | some id=>g'.ph id | none=>none }:=⟨_,rfl⟩
 obtain⟨gn,L⟩:∃ gn:Gh,gn={ ro:=gf.ro,ph:=fun a=>if a<S.nx then g2.ph a else match kp[k+(a-S.nx)]? with | some id=>g'.ph id | none=>none }:=⟨_,rfl⟩
 have hkro:gk.ro=gf.ro:=by rw[hgk]
 have Y:∀ j id,kp[j]? = some id→gk.ph j=g'.ph id:=by intro j id e;rw[hgk];simp only[e]
 have phOf:∀(i a:Nat),ids[i]? = some a→g'.ph i=g2.ph a:=by
   intro i a e
   have m:i<S0.nx:=by rw[h1,←hi];exact(List.getElem?_eq_some_iff.1 e).1
   rw[D.qN i m,C.ph,G i a e]
 have hren:iK τ gk gn:=by
   refine⟨by rw[hgk,L],fun j=>?_⟩
   by_cases hj:j<k
   · have hja:ids[j]? = some ids[j]:=nA (by rw[hi];omega)
     rw[Y j j (hkl j hj),tlow j _ hj hja,phOf j _ hja,L]
     simp only[idlt j _ hja,if_true]
   · rw[hhigh j (by omega),L,hgk]
     simp only[show ¬ (S.nx+(j-k)<S.nx) from by omega,if_false,show k+(S.nx+(j-k)-S.nx)=j from by omega]
 have B:∀ a,a<S.nx→gn.ph a=g2.ph a:=by intro a e;rw[L];simp only[e,if_true]
 have hro1:∀ b c,g2.ro b=some c→gn.ro b=some c:=by
   intro b c e;rw[L];exact hfz.1.ro b c (D.mJ.ro b c (by rw[C.ro];exact e))
 have hgle:Gh.le g2 gn:=by
   refine⟨hro1,fun a l e=>?_⟩
   rcases Nat.lt_or_ge a S.nx with q | q
   · rw[B a q];exact e
   · rw[n.fresh a q] at e;simp at e
 have other:∀ a o l,S.get a=some o→a∉ids→g2.ph a=some l→∀ id o', S0.get id=some o' → ∀ l', g.ph id=some l' → l'.bO≠l.bO:=by
   intro a o l e s hl2 id o' E l' hl' heq
   rw[h0] at E
   obtain⟨b,U⟩:=M id o' E
   have:=n.inj b a _ o l' l (hS id b o' U E).1 e (by rw[←G id b U,←C.ph];exact hl') hl2 heq
   subst this
   exact s (sq U)
 obtain⟨S2,hS2⟩:∃ S2,S2=uI (qm S (ids.zip (jB.map (Option.map (ai.aw τ))++J))) (add.map (ai.aw τ)):=⟨_,rfl⟩
 rw[←hS2]
 have hnx2:S2.nx=S.nx+add.length:=by rw[hS2,(zm _ _).1,(wa _ _).1];simp
 have hlim2:S2.lim=S.lim:=by rw[hS2,(zm _ _).2,(wa _ _).2]
 have hndz:((ids.zip (jB.map (Option.map (ai.aw τ))++J)).map (·.1)).Nodup:=by
   rw[List.map_fst_zip (by simp;omega)];exact hn
 have getLow:∀ a,a<S.nx→a∉ids→S2.get a=S.get a:=by
   intro a s hna
   rw[hS2,wb,if_neg (by rw[(wa _ _).1];omega)]
   exact xV fun p hp=>by rintro rfl;exact hna (List.of_mem_zip hp).1
 have Z:∀ a o,S2.get a=some o→(∃(j id:Nat) (o0 o' : ai),τ j=a∧kp[j]? = some id∧X.get id=some o0∧qO X kp o0 o' ∧ o=o'.aw τ)∨(a∉ids∧a<S.nx∧S.get a=some o):=by
   intro a o e
   rw[hS2,wb,(wa _ _).1] at e
   split at e
   · rename_i hc
     rw[List.getElem?_map] at e
     cases U:add[a-S.nx]? with
     | none=>rw[U] at e;simp at e
     | some o' =>
       rw[U] at e;simp at e
       obtain⟨id,o0,q0,A,F⟩:=hadd _ o' U
       exact .inl ⟨k+(a-S.nx),id,o0,o', by rw[hhigh _ (by omega)];omega,q0,A,F,e.symm⟩
   · by_cases s:a∈ids
     · obtain⟨i,hia⟩:=List.getElem?_of_mem s
       by_cases V:i<k
       · have m:i<jB.length:=by rw[hl];exact V
         have hno:jB[i]? = some jB[i]:=nA m
         have hm:(a,Option.map (ai.aw τ) jB[i])∈ids.zip (jB.map (Option.map (ai.aw τ))++J):=sq (i:=i) (by
           rw[List.getElem?_zip_eq_some]
           exact⟨hia,by rw[List.getElem?_append_left (by simpa using m),List.getElem?_map,hno];rfl⟩)
         rw[Cg hndz _ _ hm] at e
         cases hu:jB[i] with
         | none=>rw[hu] at e;simp at e
         | some o' =>
           rw[hu] at e hno;simp at e
           obtain⟨o0,A,F⟩:=hupd i o' hno
           exact .inl ⟨i,i,o0,o', tlow i a V hia,hkl i V,A,F,e.symm⟩
       · have hil:i<ids.length:=(List.getElem?_eq_some_iff.1 hia).1
         have m:i-jB.length<J.length:=by omega
         have hno:J[i-jB.length]? = some J[i-jB.length]:=nA m
         have hpn:=hpad _ (List.getElem_mem m)
         have hm:(a,(none:Option ai))∈ids.zip (jB.map (Option.map (ai.aw τ))++J):=sq (i:=i) (by
           rw[List.getElem?_zip_eq_some]
           exact⟨hia,by rw[List.getElem?_append_right (by simp;omega)];simp only[List.length_map];rw[hno,hpn]⟩)
         rw[Cg hndz _ _ hm] at e
         simp at e
     · rw[xV (fun p hp=>by rintro rfl;exact s (List.of_mem_zip hp).1)] at e
       exact .inr ⟨s,n.iZ e,e⟩
 have phK:∀(j id:Nat),kp[j]? = some id→gn.ph (τ j)=g'.ph id:=by intro j id e;rw[←hren.ph,Y j id e]
 have noroK:∀(j id:Nat) (o0:ai) (l:Loc),kp[j]? = some id→X.get id=some o0→g'.ph id=some l→gf.ro l.bO=none:=by
   intro j id o0 l e e1 e2
   cases hr:gf.ro l.bO with
   | none=>rfl
   | some c=>
     exfalso
     obtain⟨l1,x,y,_⟩:=K.ob id o0 e1
     rw[e2] at x;simp only[an] at x;subst x
     rcases H _ _ hr with q | ⟨_,id2,o2,l2,A,F,q3⟩
     · rw[y] at q;simp at q
     · rw[oe] at A
       split at A
       · simp at A
       · rename_i hge
         have:=K.inj id2 id o2 o0 l2 l A e1 F e2 q3
         subst this
         exact hge (sq e)
 have noroB:∀ a o l,a∉ids→S.get a=some o→g2.ph a=some l→gf.ro l.bO=none:=by
   intro a o l s E hl2
   cases hr:gf.ro l.bO with
   | none=>rfl
   | some c=>
     exfalso
     obtain⟨l1,x,y,z⟩:=n.ob a o E
     rw[hl2] at x;simp only[an] at x;subst x
     have m:=z.lt
     rcases H _ _ hr with q | ⟨_,id,o2,l2,A,F,q3⟩
     · rcases D.vl _ _ q m with q | ⟨d,o0,N,I,f2,R,f4⟩
       · rw[C.ro,y] at q;simp at q
       · exact other a o l E s hl2 d o0 I N R f4
     · rw[oe] at A
       split at A
       · simp at A
       · obtain⟨d,o0,N,I,f2,R,f4⟩:=D.own id o2 l2 A (by rw[h2];omega) F (by rw[q3];exact m)
         exact other a o l E s hl2 d o0 I N R (f4.trans q3)
 have fin:∀ b d o0 N,S0.get d=some o0→g.ph d=some N→N.bO=b→∃ d o0 N,S.get d=some o0∧S.lim≤d∧g2.ph d=some N∧N.bO=b:=by
   intro b d o0 N I R f4
   rw[h0] at I
   obtain⟨a,s⟩:=M d o0 I
   obtain⟨A,F⟩:=hS d a o0 s I
   exact⟨a,_,N,A,F,by rw[←G d a s,←C.ph];exact R,f4⟩
 refine⟨.ret (v'.aw τ),S2,gn,⟨rfl,rfl⟩,?_,⟨fun b c e=>?_,fun a o e=>?_,fun a a' o o' l l' e E p p' q=>?_,fun a s=>?_⟩,⟨D.size,D.os,D.tape,D.output,fun b U hne=>?_,fun a o l e1 e2 e3 e4=>?_,hgle,by rw[hnx2];omega,hlim2,fun a s=>?_,fun a s=>B a s,fun b c e U=>?_,fun a s e=>?_,D.fz⟩⟩
 · cases e with
   | returned x=>exact(gJ.sound K hfz hkro Y hf hres).aw hren
   | panicked c=>exact hres.elim
   | outgrown=>exact hres.elim
 · rw[L] at e
   rcases H b c e with q | ⟨q,_⟩
   · exact K.ro b c q
   · exact q
 · rcases Z a o e with⟨j,id,o0,o', rfl,A,F,q3,rfl⟩ | ⟨s,m,E⟩
   · obtain⟨l,x,y,z⟩:=K.ob id o0 F
     refine⟨l,by rw[phK j id A];exact x,?_,(q3.sound K hfz hkro Y z).aw hren⟩
     have:=noroK j id o0 l A F x
     rw[L];exact this
   · obtain⟨l,x,y,z⟩:=n.ob a o E
     have hk' : w'.heap[l.bO]? = w.heap[l.bO]? := D.gw l.bO z.lt fun id o' l' I _ R=>other a o l E s x id o' I l' R
     refine⟨l,by rw[B a m];exact x,?_,by rw[hk'];exact z.mono hgle⟩
     have:=noroB a o l s E x
     rw[L];exact this
 · have mix:∀(j id:Nat) (o0:ai) (a:Nat) (o' : ai) (l l' : Loc),kp[j]? = some id→X.get id=some o0→g'.ph id=some l→a∉ids→S.get a=some o' → g2.ph a=some l' → l.bO=l'.bO→False:=by
     intro j id o0 a o' l l' A F q3 s E hl' U
     obtain⟨l1,x,y,z⟩:=n.ob a o' E
     rw[hl'] at x;simp only[an] at x;subst x
     have m:=z.lt
     obtain⟨d,o1,N,I,f2,R,f4⟩:=D.own id o0 l F (by rw[h2];omega) q3 (by rw[U];exact m)
     exact other a o' l' E s hl' d o1 I N R (f4.trans U)
   rcases Z a o e with⟨j,id,o0,u,rfl,A,F,q3,rfl⟩ | ⟨s,m,e1⟩<;>rcases Z a' o' E with⟨j', O,o0', u', rfl,r1,r2,r3,rfl⟩ | ⟨ha', hlt', e1'⟩
   · rw[phK j id A] at p
     rw[phK j' O r1] at p'
     have:=K.inj id O o0 o0' l l' F r2 p p' q
     subst this
     have hj:=(List.getElem?_eq_some_iff.1 A).1
     rw[(List.getElem?_inj hj hnd).1 (A.trans r1.symm)]
   · exact(mix j id o0 a' o' l l' A F (by rw[←phK j id A];exact p) ha' e1' (by rw[←B a' hlt'];exact p') q).elim
   · exact(mix j' O o0' a o l' l r1 r2 (by rw[←phK j' O r1];exact p') s e1 (by rw[←B a m];exact p) q.symm).elim
   · exact n.inj a a' o o' l l' e1 e1' (by rw[←B a m];exact p) (by rw[←B a' hlt'];exact p') q
 · rw[hnx2] at s
   have:kp[k+(a-S.nx)]? = none:=List.getElem?_eq_none (by rw[hlen];omega)
   rw[L]
   simp only[show ¬ (a<S.nx) from by omega,if_false,this]
 · refine D.gw b U fun id o l I _ R=>?_
   rw[h0] at I
   obtain⟨a,s⟩:=M id o I
   obtain⟨A,F⟩:=hS id a o s I
   exact hne a _ l A F (by rw[←G id a s,←C.ph];exact R)
 · rcases Z a o e1 with⟨j,id,o0,o', rfl,A,F,q3,rfl⟩ | ⟨_,m,E⟩
   · rw[phK j id A] at e3
     obtain⟨d,o1,N,I,f2,R,f4⟩:=D.own id o0 l F (by rw[h2];omega) e3 e4
     exact fin _ d o1 N I R f4
   · exact⟨a,o,l,E,e2,by rw[←B a m];exact e3,rfl⟩
 · refine getLow a (by omega) fun hm=>?_
   obtain⟨i,hi2⟩:=List.getElem?_of_mem hm
   obtain⟨_,_,_,q⟩:=W i _ hi2
   omega
 · rw[L] at e
   rcases H b c e with q | ⟨_,id,o,l,A,F,q3⟩
   · rcases D.vl b c q U with f | ⟨d,o0,N,I,f2,R,f4⟩
     · exact .inl (by rw[←C.ro];exact f)
     · exact .inr (fin _ d o0 N I R f4)
   · rw[oe] at A
     split at A
     · simp at A
     · obtain⟨d,o0,N,I,f2,R,f4⟩:=D.own id o l A (by rw[h2];omega) F (by rw[q3];exact U)
       exact .inr (fin _ d o0 N I R (f4.trans q3))
 · refine(getLow a s fun hm=>?_).trans e
   obtain⟨i,hi2⟩:=List.getElem?_of_mem hm
   obtain⟨o', _,q,_⟩:=W i _ hi2
   rw[e] at q;simp at q
def Gp (k m:Nat)(kp:List Nat):Bool:=kp.Nodup&&Nat.beq kp.length (k+m)&&(List.range k).all fun i=>kp[i]? == some i
def mA (S:af)(kp:List Nat):Nat→List (Option ai)→Prop
 | _,[]=>True
 | i,none::r=>mA S kp (i+1) r
 | i,some o' :: r=>(∃ o,S.get i=some o∧qO S kp o o')∧mA S kp (i+1) r
def sT (S:af)(kp:List Nat):List Nat→List ai→Prop
 | _,[]=>True
 | [],_::_=>False
 | id::r,o' :: l=>(∃ o,S.get id=some o∧qO S kp o o')∧sT S kp r l
variable {i : Nat}
theorem bg : mA S kp i []:=trivial
variable {r : List (Option ai)}
theorem X3 (h:mA S kp (i+1) r):mA S kp i (none::r):=h
variable {o o' : ai}
theorem Ar (e:S.get i=some o)(f:qO S kp o o')(h:mA S kp (i+1) r):mA S kp i (some o' :: r):=⟨⟨o,e,f⟩,h⟩
theorem ah {l:List Nat}:sT S kp l []:=by cases l<;>trivial
theorem Hr {l:List Nat}{r:List ai}(e:S.get id=some o)(f:qO S kp o o')(h:sT S kp l r):sT S kp (id::l) (o' :: r):=⟨⟨o,e,f⟩,h⟩
theorem As : ∀ {l:List (Option ai)} {i:Nat},mA S kp i l→∀(j:Nat) (o' : ai),l[j]? = some (some o')→∃ o,S.get (i+j)=some o∧qO S kp o o' := by
 intro l
 induction l with
 | nil=>intro i _ j o' e;simp at e
 | cons a l b=>
   intro i h j o' e
   cases j with
   | zero=>simp at e;subst e;exact h.1
   | succ j=>
     have c:mA S kp (i+1) l:=by cases a<;>first | exact h | exact h.2
     have:=b c j o' (by simpa using e)
     rw[show i+1+j=i+(j+1) from by omega] at this
     exact this
theorem Au : ∀ {l:List ai} {ids:List Nat},sT S kp ids l→∀(j:Nat) (o' : ai),l[j]? = some o' → ∃ id o,ids[j]? = some id∧S.get id=some o∧qO S kp o o' := by
 intro l
 induction l with
 | nil=>intro ids _ j o' e;simp at e
 | cons a l c=>
   intro ids h j o' e
   cases ids with
   | nil=>exact h.elim
   | cons id r=>
     cases j with
     | zero=>simp at e;subst e;obtain⟨o,p,q⟩:=h.1;exact⟨id,o,rfl,p,q⟩
     | succ j=>
       obtain⟨b,o,p,q⟩:=c h.2 j o' (by simpa using e)
       exact⟨b,o,by simpa using p,q⟩
def tp (S:af):List Nat→List ai→Prop
 | a::r,o::l=>(S.get a=some o∧Nat.ble S.lim a=true)∧tp S r l
 | [],[]=>True
 | _,_=>False
theorem Yy (S:af):tp S [] []:=trivial
theorem X4 {r:List Nat}{l:List ai}(h:S.get a=some o)(b:Nat.ble S.lim a=true)(t:tp S r l):tp S (a::r) (o::l):=⟨⟨h,b⟩,t⟩
theorem Hs : ∀ {ids:List Nat} {l:List ai},tp S ids l→ids.length=l.length∧∀(i a:Nat) (o:ai),ids[i]? = some a→l[i]? = some o→S.get a=some o∧S.lim≤a:=by
 intro ids
 induction ids with
 | nil=>
   intro l h
   cases l with
   | nil=>exact⟨rfl,fun i a o e=>by simp at e⟩
   | cons x l=>exact h.elim
 | cons b r d=>
   intro l h
   cases l with
   | nil=>exact h.elim
   | cons x l=>
     obtain⟨p,q⟩:=d h.2
     refine⟨by simp[p],fun i a o e c=>?_⟩
     cases i with
     | zero=>simp at e c;subst e;subst c;exact⟨h.1.1,ed h.1.2⟩
     | succ i=>exact q i a o (by simpa using e) (by simpa using c)
section
variable {T : FT} {P : Program} {Q : gI → af → Prop}
theorem XE (E:bL T P)(n:Nat){s:St}(kp:List Nat)(h:wU (ab T P n s)=some v)(b:Gp k add.length kp=true)(c:gJ (Np (ab T P n s)) kp v v')(d:mA (Np (ab T P n s)) kp 0 jB)(f:sT (Np (ab T P n s)) kp (kp.drop k) add):SX P (RG k v' jB add) s:=by
 refine⟨bP E.ok E.mix n ?_⟩
 generalize ab T P n s=s at h c d f
 unfold wU at h
 split at h<;>simp only[an,reduceCtorEq] at h
 subst h
 simp only[Gp,Bool.and_eq_true,decide_eq_true_eq,List.all_eq_true,List.mem_range,beq_iff_eq] at b
 obtain⟨⟨k1,k2⟩,k3⟩:=b
 refine⟨_,kp,rfl,k1,jj k2,k3,c,fun i o' e=>?_,fun i o' e=>?_⟩
 · have:=As d i o' e
   rwa [Nat.zero_add] at this
 · obtain⟨id,o,p,q⟩:=Au f i o' e
   exact⟨id,o,by rwa [List.getElem?_drop] at p,q⟩
theorem LV (E:bL T P){f:Nat}{c:List AV}{d:List ai}{g:List (Option ai)}{j:List ai}(m:List (Option ai))(h:SX P (RG k v jB add) (St.start T f args (oL olds.length (lY 0 olds))))(t:jB.length=k)(u:Nat.ble k olds.length=true)(q:m.all Option.isNone=true)(s:k+m.length=olds.length)(S:af)(ids:List Nat)(n:Nat.ble S.lim S.nx=true)(w:ids.Nodup)(y:tp S ids d)(p:olds.map (ai.aw (rL ids S.nx))=d)(z:dE (rL ids S.nx) args=c)(A:v.aw (rL (ids.take k) S.nx)=v')(B:jB.map (Option.map (ai.aw (rL (ids.take k) S.nx)))++m=g)(C:add.map (ai.aw (rL (ids.take k) S.nx))=j) :
   cL P f c S fun r D=>r=.ret v' ∧ D=uI (qm S (ids.zip g)) j:=by
 subst p;subst z;subst A;subst B;subst C
 obtain⟨a,b⟩:=Hs y
 refine cL.gen (tZ E.ok h.out) (ed u) (fun o p=>?_) s (C8 olds) rfl rfl t (ed n) (by simpa using a) w fun i x o e F=>?_
 · have:=List.all_eq_true.1 q o p
   cases o with
   | none=>rfl
   | some _=>simp at this
 · exact b i x _ e (by rw[List.getElem?_map,F];rfl)
end
end
end Go.Eng

/- Frames, contracts of functions, and regions without an order; no conditions. -/
import Derived.Test.YthplmmeobggkfaaGreatVEngB
import Derived.Orders
set_option linter.all false
namespace Go.Eng
noncomputable section
mutual
def aV : AV→Bool
 | .sc _=>true
 | .agg cs=>cF cs
 | .ft=>true
 | .an=>true
 | .lit es=>cF es
 | .dN cs=>cF cs
 | .ptr _ _ _=>false
 | .ai _ _ _=>false
 | .cQ _=>false
 | .fn _ a b=>match cF a with
   | true=>cF b
   | false=>false
 | .eu _ v=>aV v
 | .bO c=>cF c
 | .rV _=>false
 | .clip v=>aV v
 | .top=>true
def cF : List AV→Bool
 | []=>true
 | v::r=>match aV v with
   | true=>cF r
   | false=>false
end
theorem fN {l:List AV}(h:cF l=true):∀ {k:Nat} {a:AV},l[k]? = some a→aV a=true:=by
 induction l with
 | nil=>intro k a e;simp at e
 | cons v r b=>
   intro k a e
   simp only[cF] at h
   split at h<;>try (simp at h;done)
   rename_i c
   cases k with
   | zero=>simp at e;subst e;exact c
   | succ k=>exact b h (by simpa using e)
theorem kx {e:AV}(h:aV e=true){j:Nat}{a:AV}(b:e.cells[j]? = some a):aV a=true:=by
 cases e with
 | agg cs=>exact fN (l:=cs) (by simpa [aV] using h) b
 | _=>
   cases j with
   | zero=>simp[AV.cells] at b;subst b;exact h
   | succ j=>simp[AV.cells] at b
def Gh.bare (g:Gh):Gh:={ ro:=g.ro,ph:=fun _=>none }
theorem VR.bare {g:Gh}{v:AV}{x:Value}(h:VR g v x)(b:aV v=true):VR g.bare v x:=by
 induction h with
 | sc h=>exact .sc h
 | agg d _ c=>exact .agg d fun k a x e f=>c k a x e f (fN (by simpa [aV] using b) e)
 | ft=>exact .ft
 | an=>exact .an
 | lit m hs hb l _ c=>exact .lit m hs hb l fun i j e a x p q r=>c i j e a x p q r (kx (fN (by simpa [aV] using b) p) q)
 | jV=>exact .jV
 | dN m hb _ c=>exact .dN m hb fun j a x p q=>c j a x p q (fN (by simpa [aV] using b) p)
 | ptr d=>simp[aV] at b
 | ai d o hb=>simp[aV] at b
 | hM=>simp[aV] at b
 | cQ d=>simp[aV] at b
 | fn hx hy _ _ c n=>
   simp only[aV] at b
   split at b<;>try (simp at b;done)
   rename_i ha
   exact .fn hx hy (fun k a x e f=>c k a x e f (fN ha e)) (fun k a x e f=>n k a x e f (fN b e))
 | eu _ c=>exact .eu (c (by simpa [aV] using b))
 | bO d _ c=>exact .bO d fun k a x e f=>c k a x e f (fN (by simpa [aV] using b) e)
 | rV d=>simp[aV] at b
 | clip _ c=>exact .clip (c (by simpa [aV] using b))
 | top=>exact .top
theorem fU.frame {P:Program}{f:FuncId}{args:List AV}{v:AV}(ha:cF args=true)(F:aV v=true)(h:fU P f args ag.empty fun r _=>r=.ret v)(S:ag) :
   fU P f args S fun r E=>r=.ret v∧E=S:=by
 intro g w xs hx hi
 have B:Inv ag.empty g.bare w:=⟨hi.ro,fun id o e=>by rw[ag.fM] at e;simp at e,fun id s o o' l l' e=>by rw[ag.fM] at e;simp at e,fun _ _=>rfl⟩
 have C:hJ g.bare args xs:=⟨hx.1,fun k a x e y=>(hx.2 k a x e y).bare (fN ha e)⟩
 refine(h g.bare w xs C B).mono fun e w' ⟨r,E,g', z,j,D,i⟩=>?_
 subst z
 obtain⟨A,d⟩:∃ k:Gh,k={ ro:=g'.ro,ph:=g.ph }:=⟨_,rfl⟩
 have t:∀ b c,g'.ro b=some c→b<w.heap.size→g.ro b=some c:=by
   intro b c e hb
   rcases i.CU b c e hb with q | ⟨J,o0,K,q,_⟩
   · exact q
   · rw[ag.fM] at q;simp at q
 have m:∀ b,b<w.heap.size→w'.heap[b]? = w.heap[b]? := fun b hb=>i.jW b hb fun id o l e=>by rw[ag.fM] at e;simp at e
 have n:Gh.le g A:=by subst d;exact⟨fun b c e=>i.oS.ro b c e,fun _ _ e=>e⟩
 have u:Gh.le g'.bare A:=by subst d;exact⟨fun _ _ e=>e,fun _ _ e=>by simp[Gh.bare] at e⟩
 refine⟨.ret v,S,A,⟨rfl,rfl⟩,?_,⟨?_,?_,?_,?_⟩,⟨i.size,i.os,i.tape,i.output,fun b hb _=>m b hb,?_,n,bG _,rfl,fun _ _=>rfl,?_,?_,?_,i.fz⟩⟩
 · cases e with
   | returned x=>exact(VR.bare j F).mono u
   | panicked c=>exact j.elim
   | outgrown=>exact j.elim
 · intro b c e;subst d;exact D.ro b c e
 · intro id o e
   obtain⟨l,a,b,c⟩:=hi.ob id o e
   refine⟨l,n.ph _ _ a,?_,?_⟩
   · subst d
     cases z:g'.ro l.cZ with
     | none=>rfl
     | some cc=>rw[t _ _ z c.lt] at b;simp at b
   · rw[m _ c.lt];exact c.mono n
 · intro id s o o' l l' e y p G hb
   subst d;exact hi.inj id s o o' l l' e y p G hb
 · intro id bE;subst d;exact hi.fresh id bE
 · intro id o l e H I L
   subst d;exact⟨id,o,l,e,H,I,rfl⟩
 · intro id _;subst d;rfl
 · intro b c e hb;subst d;exact .inl (t b c e hb)
 · exact fun _ _ e=>e
end
end Go.Eng
namespace Go.Eng
noncomputable section
mutual
def vh (S:ag):Nat→AV→Option AV
 | 0,_=>none
 | n+1,.ai id off len=>match S.get id with
   | some (.arr _ es)=>match Nat.ble (off+len) es.length with
     | true=>match ES S n ((es.drop off).take len) with
       | some l=>some (.lit l)
       | none=>none
     | false=>none
   | _=>none
 | n+1,.agg cs=>match ES S n cs with
   | some l=>some (.agg l)
   | none=>none
 | n+1,.bO cs=>match ES S n cs with
   | some l=>some (.bO l)
   | none=>none
 | n+1,.lit cs=>match ES S n cs with
   | some l=>some (.lit l)
   | none=>none
 | n+1,.eu t v=>match vh S n v with
   | some x=>some (.eu t x)
   | none=>none
 | n+1,.clip v=>match vh S n v with
   | some x=>some (.clip x)
   | none=>none
 | _+1,.sc v=>some (.sc v)
 | _+1,.ft=>some .ft
 | _+1,.an=>some .an
 | _+1,_=>none
def ES (S:ag):Nat→List AV→Option (List AV)
 | 0,_=>none
 | _+1,[]=>some []
 | n+1,v::r=>match vh S n v with
   | some x=>match ES S n r with
     | some l=>some (x::l)
     | none=>none
   | none=>none
end
variable {S : ag}
theorem uN : ∀ {n:Nat} {l l' : List AV},ES S n l=some l' → l'.length=l.length∧∀(k:Nat) (a:AV),l[k]? = some a→∃(m:Nat) (b:AV),m<n∧vh S m a=some b∧l'[k]? = some b:=by
 intro n
 induction n with
 | zero=>intro l l' h;simp[ES] at h
 | succ n d=>
   intro l l' h
   cases l with
   | nil=>simp only[ES,bj] at h;subst h;exact⟨rfl,fun k a e=>by simp at e⟩
   | cons v r=>
     simp only[ES] at h
     split at h<;>try (simp at h;done)
     rename_i x hx
     split at h<;>simp only[bj,reduceCtorEq] at h
     rename_i l2 c
     subst h
     obtain⟨h1,h2⟩:=d c
     refine⟨by simp[h1],fun k a e=>?_⟩
     cases k with
     | zero=>simp at e;subst e;exact⟨n,x,by omega,hx,rfl⟩
     | succ k=>
       obtain⟨m,b,p,q,f⟩:=h2 k a (by simpa using e)
       exact⟨m,b,by omega,q,by simpa using f⟩
def Gh.frozen (S:ag)(g:Gh)(w:World)(n:Gh):Prop:=
 Gh.le g n∧n.ph=g.ph∧(∀ id o l c t fz,S.get id=some o→g.ph id=some l→w.heap[l.cZ]? = some (.cells c t fz)→n.ro l.cZ=some c)
variable {n : Nat}
theorem Iz {v v' : AV}(h:vh S n v=some v'):(∃ cs a m,n=m+1∧v=.agg cs∧v' = .agg a∧ES S m cs=some a)∨(v.cells=[v]∧v'.cells=[v']):=by
 cases n with
 | zero=>simp[vh] at h
 | succ n=>
   cases v with
   | agg cs=>
     simp only[vh] at h
     split at h<;>simp only[bj,reduceCtorEq] at h
     rename_i l b
     exact .inl ⟨cs,l,n,rfl,rfl,h.symm,b⟩
   | ai id off len=>
     simp only[vh] at h
     split at h<;>try (simp at h;done)
     split at h<;>try (simp at h;done)
     split at h<;>simp only[bj,reduceCtorEq] at h
     subst h;exact .inr ⟨rfl,rfl⟩
   | bO cs=>simp only[vh] at h;split at h<;>simp only[bj,reduceCtorEq] at h;subst h;exact .inr ⟨rfl,rfl⟩
   | lit cs=>simp only[vh] at h;split at h<;>simp only[bj,reduceCtorEq] at h;subst h;exact .inr ⟨rfl,rfl⟩
   | clip v=>simp only[vh] at h;split at h<;>simp only[bj,reduceCtorEq] at h;subst h;exact .inr ⟨rfl,rfl⟩
   | eu t v=>simp only[vh] at h;split at h<;>simp only[bj,reduceCtorEq] at h;subst h;exact .inr ⟨rfl,rfl⟩
   | sc v=>simp only[vh,bj] at h;subst h;exact .inr ⟨rfl,rfl⟩
   | ft=>simp only[vh,bj] at h;subst h;exact .inr ⟨rfl,rfl⟩
   | an=>simp only[vh,bj] at h;subst h;exact .inr ⟨rfl,rfl⟩
   | _=>simp[vh] at h
theorem rR {l l' : List AV}(h:ES S n l=some l'){k:Nat}{b:AV}(e:l'[k]? = some b):∃(m:Nat) (a:AV),m<n∧vh S m a=some b∧l[k]? = some a:=by
 obtain⟨h1,h2⟩:=uN h
 have c:k<l.length:=by have:=(mC.1 e).1;omega
 obtain⟨m,a2,p,q,r⟩:=h2 k l[k] (qB c)
 rw[e] at r;simp only[bj] at r;subst r
 exact⟨m,_,p,q,qB c⟩
variable {g gn : Gh} {m : Nat} {e0 e : AV}
theorem LN (b:∀ m,m<n→∀(v v' : AV) (x:Value),vh S m v=some v' → VR g v x→VR gn v' x)(c:m<n){a:AV}(hf:vh S m e0=some e){j:Nat}(ha:e.cells[j]? = some a){x:Value}(h:∀ a0,e0.cells[j]? = some a0→VR g a0 x):VR gn a x:=by
 rcases Iz hf with⟨cs,l,q,rfl,rfl,rfl,d⟩ | ⟨c1,c2⟩
 · obtain⟨f,a0,o,i,k⟩:=rR d ha
   exact b f (by omega) a0 a x i (h a0 k)
 · rw[c2] at ha
   cases j with
   | zero=>simp at ha;subst ha;exact b m c e0 _ x hf (h e0 (by rw[c1];rfl))
   | succ j=>simp at ha
theorem Qu (hf:vh S m e0=some e):e.cells.length=e0.cells.length:=by
 rcases Iz hf with⟨cs,b,q,rfl,rfl,rfl,a⟩ | ⟨c1,c2⟩
 · exact(uN a).1
 · rw[c1,c2];rfl
variable {w : World}
theorem Cd (hi:Inv S g w)(H:Gh.frozen S g w gn):∀(n:Nat) (v v' : AV) (x:Value),vh S n v=some v' → VR g v x→VR gn v' x:=by
 intro n
 induction n using Nat.strongRecOn with
 | _ n G=>
   intro v v' x h s
   cases n with
   | zero=>simp[vh] at h
   | succ n=>
     cases v with
     | ai id off len=>
       simp only[vh] at h
       split at h<;>try (simp at h;done)
       rename_i sz es K
       split at h<;>try (simp at h;done)
       rename_i hb
       have hb:=gw hb
       split at h<;>simp only[bj,reduceCtorEq] at h
       rename_i l z
       subst h
       obtain⟨f,_⟩:=uN z
       have C:l.length=len:=by rw[f];simp;omega
       cases s with
       | hM=>
         have:l=[]:=tY C
         subst this;exact .jV
       | ai L Z Y=>
         rename_i cap B
         obtain⟨l1,M,a2,a3⟩:=hi.ob _ _ K
         rw[L] at M;simp only[bj] at M;subst M
         obtain⟨c,t,U,b2,N,b4,V,W⟩:=a3
         have P:=H.2.2 id _ _ c t (0,0) K L U
         have A:∀ i e,l[i]? = some e→∃(m:Nat) (e0:AV),m<n∧vh S m e0=some e∧es[off+i]? = some e0∧i<len:=by
          intro i e I
          obtain⟨m,e0,J,u,d⟩:=rR z I
          rw[tW] at d
          split at d<;>try (simp at d;done)
          rw[qW] at d
          exact⟨m,e0,J,u,d,by assumption⟩
         have R:(off+len)*B.sz≤es.length*sz:=by rw[N];exact yp _ hb
         have Q:(off+len)*B.sz=off*B.sz+len*B.sz:=gD _ _ _
         have key:VR gn (.lit l) (.slice (some ⟨B.cZ,B.base+off*B.sz,none⟩) l.length cap):=by
          refine VR.lit (sz:=B.sz) P ?_ ?_ (by omega) ?_
          · intro e I
            obtain⟨i,D,E⟩:=List.mem_iff_getElem.1 I
            obtain⟨m,e0,_,u,d,_⟩:=A i e (by rw[qB D,E])
            rw[Qu u,V e0 (vj d),N]
          · rw[C];omega
          · intro i j e a y p q r
            obtain⟨m,e0,J,u,d,_⟩:=A i e p
            refine LN (n:=n+1) G (by omega) u q fun a0 F=>W (off+i) j e0 a0 y d F ?_
            rw[←r]
            congr 1
            rw[←N,gD];omega
         rw[C] at key;exact key
     | agg cs=>
       simp only[vh] at h
       split at h<;>simp only[bj,reduceCtorEq] at h
       rename_i l z
       subst h
       cases s with | agg h1 h2=>?_
       refine .agg (by rw[(uN z).1];exact h1) fun k a y e O=>?_
       obtain⟨m,a0,J,u,d⟩:=rR z e
       exact G m (by omega) a0 a y u (h2 k a0 y d O)
     | bO cs=>
       simp only[vh] at h
       split at h<;>simp only[bj,reduceCtorEq] at h
       rename_i l z
       subst h
       cases s with | bO h1 h2=>?_
       refine .bO (by rw[(uN z).1];exact h1) fun k a y e O=>?_
       obtain⟨m,a0,J,u,d⟩:=rR z e
       exact G m (by omega) a0 a y u (h2 k a0 y d O)
     | lit cs=>
       simp only[vh] at h
       split at h<;>simp only[bj,reduceCtorEq] at h
       rename_i l z
       subst h
       have f:=(uN z).1
       cases s with
       | lit X hs hb T h2=>
         rename_i b o sz cap c
         have key:VR gn (.lit l) (.slice (some ⟨b,o,none⟩) l.length cap):=by
          refine VR.lit (sz:=sz) (H.1.ro _ _ X) ?_ (by rw[f];exact hb) (by omega) ?_
          · intro e I
            obtain⟨i,D,E⟩:=List.mem_iff_getElem.1 I
            obtain⟨m,e0,_,u,d⟩:=rR z (by rw[qB D,E])
            rw[Qu u];exact hs e0 (vj d)
          · intro i j e a y p q r
            obtain⟨m,e0,J,u,d⟩:=rR z p
            exact LN (n:=n+1) G (by omega) u q fun a0 F=>h2 i j e0 a0 y d F r
         rw[f] at key;exact key
       | jV=>
         have:l=[]:=tY f
         subst this;exact .jV
     | eu t v=>
       simp only[vh] at h
       split at h<;>simp only[bj,reduceCtorEq] at h
       rename_i y hy
       subst h
       cases s with | eu s=>exact .eu (G n (by omega) v y _ hy s)
     | clip v=>
       simp only[vh] at h
       split at h<;>simp only[bj,reduceCtorEq] at h
       rename_i y hy
       subst h
       cases s with | clip s=>exact .clip (G n (by omega) v y _ hy s)
     | sc v=>simp only[vh,bj] at h;subst h;exact s.mono H.1
     | ft=>simp only[vh,bj] at h;subst h;exact s.mono H.1
     | an=>simp only[vh,bj] at h;subst h;exact s.mono H.1
     | _=>simp[vh] at h
open Classical in
noncomputable def Gh.freeze (g:Gh)(S:ag)(w:World):Gh:=
 { ro:=fun b=>match g.ro b with
    | some c=>some c
    | none=>match w.heap[b]? with
      | some (.cells c _ _)=>if(∃ id o l,S.get id=some o∧g.ph id=some l∧l.cZ=b) then some c else none
      | _=>none
   ph:=g.ph }
theorem Gh.jT (hi:Inv S g w):Gh.frozen S g w (g.freeze S w):=by
 refine⟨⟨fun b c e=>by simp[Gh.freeze,e],fun _ _ e=>e⟩,rfl,fun id o l c t fz d f h=>?_⟩
 obtain⟨l', a,a2,_⟩:=hi.ob id o d
 rw[f] at a;simp only[bj] at a;subst a
 simp only[Gh.freeze,a2,h]
 rw[if_pos ⟨id,o,l,d,f,rfl⟩]
theorem fU.freeze {P:Program}{f:FuncId}{args:List AV}{v' : AV}{Q:gQ→ag→Prop}{n:Nat}(h:fU P f args ag.empty Q)(z:∀ r d,Q r d→∃ v,r=.ret v∧vh d n v=some v') :
   fU P f args ag.empty fun r _=>r=.ret v' := by
 intro g w xs hx hi
 refine(h g w xs hx hi).mono fun e w' ⟨r,d,g', A,i,k,a⟩=>?_
 obtain⟨v,B,hf⟩:=z r d A
 subst B
 have s:=Gh.jT k
 have p:∀ id,(⟨d.nx,d.lim,.nil⟩:ag).get id=none:=by
   intro id
   by_cases h:Ok id
   · rw[ag.cE h];exact PT.get_nil _ _
   · exact ag.qh h
 have j:∀ b c,(g'.freeze d w').ro b=some c→g'.ro b=some c∨(∃ t fz,w'.heap[b]? = some (.cells c t fz))∧∃ id o l,d.get id=some o∧g'.ph id=some l∧l.cZ=b:=by
   intro b c e
   simp only[Gh.freeze] at e
   split at e
   · rename_i C D;simp only[bj] at e;subst e;exact .inl D
   · split at e
     · rename_i C t fz hh
       split at e<;>simp only[bj,reduceCtorEq] at e
       rename_i u
       subst e;exact .inr ⟨⟨t,fz,hh⟩,u⟩
     · simp at e
 refine⟨.ret v', ⟨d.nx,d.lim,.nil⟩,g'.freeze d w', rfl,?_,⟨?_,?_,?_,?_⟩,⟨a.size,a.os,a.tape,a.output,a.jW,?_,Gh.le_trans a.oS s.1,a.nx,a.lim,?_,a.vZ,?_,fun id _ _=>p id,a.fz⟩⟩
 · cases e with
   | returned x=>exact Cd k s n v v' x hf i
   | panicked c=>exact i.elim
   | outgrown=>exact i.elim
 · intro b c e
   rcases j b c e with q | ⟨q,_⟩
   · exact k.ro b c q
   · exact q
 · intro id o e;rw[p] at e;simp at e
 · intro id F o o' l l' e;rw[p] at e;simp at e
 · exact k.fresh
 · intro id o l e;rw[p] at e;simp at e
 · intro id bE;exact absurd bE (Nat.not_lt_zero id)
 · intro b c e hb
   rcases j b c e with q | ⟨_,id,o,l,E,q2,q3⟩
   · exact a.CU b c q hb
   · obtain⟨G,o0,H,y,_⟩:=a.own id o l E (bW id) q2 (by rw[q3];exact hb)
     rw[ag.fM] at y;simp at y
end
end Go.Eng
namespace Go.Eng
noncomputable section
variable {ρ ρ' : Operand → Option AV}
theorem tD : ∀ {l:List Operand},(∀ x,x∈l→ρ x=ρ' x)→re ρ l=re ρ' l:=by
 intro l
 induction l<;>grind[re]
theorem Dh : ∀ {l:List (Nat×Operand)},(∀ x,x∈l.map (·.2)→ρ x=ρ' x)→w5 ρ l=w5 ρ' l:=by
 intro l
 induction l<;>grind[w5]
variable {P : Program}
theorem RV {S:ag}{o:Op}(h:∀ x,x∈o.operands.toList→ρ x=ρ' x):gH P ρ S o=gH P ρ' S o:=by
 cases o with
 | build t p=>
   grind[Dh,Op.operands,gH]
 | buildSlice t n p=>
   grind[Dh,Op.operands,gH]
 | makeFunc f a b=>
   have h1:=tD (l:=a.toList) fun x hx=>h x (by simp only[Op.operands,BY,fc];exact .inl hx)
   have h2:=tD (l:=b.toList) fun x hx=>h x (by simp only[Op.operands,BY,fc];exact .inr hx)
   simp only[gH,h1,h2]
 | makeMap t r=>cases r<;>rfl
 | slice t x lo hi m=>
   cases m with
   | some m=>
     have e:=h x (by simp[Op.operands])
     have h3:=h m (by simp[Op.operands])
     cases lo with
     | some a=>
       have h1:=h a (by simp[Op.operands])
       cases hi with
       | none=>rfl
       | some b=>have h2:=h b (by simp[Op.operands]);simp only[gH,e,h1,h2,h3]
     | none=>
       cases hi with
       | none=>rfl
       | some b=>have h2:=h b (by simp[Op.operands]);simp only[gH,e,h2,h3]
   | none=>
     have e:=h x (by simp[Op.operands])
     cases lo with
     | none=>
       cases hi with
       | none=>simp only[gH,e]
       | some b=>have h2:=h b (by simp[Op.operands]);simp only[gH,e,h2]
     | some a=>
       have h1:=h a (by simp[Op.operands])
       cases hi with
       | none=>simp only[gH,e,h1]
       | some b=>have h2:=h b (by simp[Op.operands]);simp only[gH,e,h1,h2]
 | call c=>
   have h1:=tD (l:=c.args.toList) fun x hx=>h x (by simp only[Op.operands,Call.operands,BY,fc];exact .inr hx)
   simp only[gH,xh,h1]
   cases j:c.callee with
   | builtin b=>rfl
   | invoke r n=>have h2:=h r (by simp[Op.operands,Call.operands,j]);simp only[h2]
   | value f=>have h2:=h f (by simp[Op.operands,Call.operands,j]);simp only[h2]
 | defer c=>
   have h1:=tD (l:=c.args.toList) fun x hx=>h x (by simp only[Op.operands,Call.operands,BY,fc];exact .inr hx)
   simp only[gH,h1]
   cases j:c.callee with
   | builtin b=>rfl
   | invoke r n=>rfl
   | value f=>have h2:=h f (by simp[Op.operands,Call.operands,j]);simp only[h2]
 | alloc t=>rfl
 | pick c a b=>simp only[gH,h c (by simp[Op.operands]),h a (by simp[Op.operands]),h b (by simp[Op.operands])]
 | mapUpdate t m k x=>simp only[gH,h m (by simp[Op.operands]),h k (by simp[Op.operands]),h x (by simp[Op.operands])]
 | insert t m k x=>simp only[gH,h m (by simp[Op.operands]),h k (by simp[Op.operands]),h x (by simp[Op.operands])]
 | store t a x=>simp only[gH,h a (by simp[Op.operands]),h x (by simp[Op.operands])]
 | binOp o t a x u=>simp only[gH,h a (by simp[Op.operands]),h x (by simp[Op.operands])]
 | makeSlice t a x=>simp only[gH,h a (by simp[Op.operands]),h x (by simp[Op.operands])]
 | indexAddr t a x=>simp only[gH,h a (by simp[Op.operands]),h x (by simp[Op.operands])]
 | index t a x=>simp only[gH,h a (by simp[Op.operands]),h x (by simp[Op.operands])]
 | lookup t a x c=>simp only[gH,h a (by simp[Op.operands]),h x (by simp[Op.operands])]
 | move x=>simp only[gH,h x (by simp[Op.operands])]
 | assign x=>simp only[gH,h x (by simp[Op.operands])]
 | box t x=>simp only[gH,h x (by simp[Op.operands])]
 | load t x=>simp only[gH,h x (by simp[Op.operands])]
 | nilCheck x=>simp only[gH,h x (by simp[Op.operands])]
 | unOp o t x=>simp only[gH,h x (by simp[Op.operands])]
 | convert s d x=>simp only[gH,h x (by simp[Op.operands])]
 | makeInterface t x=>simp only[gH,h x (by simp[Op.operands])]
 | fieldAddr t x f=>simp only[gH,h x (by simp[Op.operands])]
 | field t x f=>simp only[gH,h x (by simp[Op.operands])]
 | range t x=>simp only[gH,h x (by simp[Op.operands])]
 | next x s=>simp only[gH,h x (by simp[Op.operands])]
 | entry x=>simp only[gH,h x (by simp[Op.operands])]
 | typeAssert x a b c=>simp only[gH,h x (by simp[Op.operands])]
 | extract x i=>simp only[gH,h x (by simp[Op.operands])]
 | panic x=>simp only[gH,h x (by simp[Op.operands])]
 | _=>rfl
def Zx (g:Gh)(all:Array Oper)(o:Oper)(get:Nat→Option AV)(fr:Frame):Prop:=∀ t,t∈o.looksAt all→∀ u,get t=some u→∃ x,fr.tmps[t]? = some x∧VR g u x
def looked (all:Array Oper)(o:Oper)(F:ae):Operand→Option AV
 | .tmp t=>if t∈o.looksAt all then F.get t else none
 | x=>F.eval x
variable {g : Gh} {all : Array Oper} {o : Oper} {F : ae} {fr : Frame}
theorem AI (h:Zx g all o F.get fr):K6 g (looked all o F) fr.eval:=by
 intro x v e
 cases x with
 | tmp t=>
   simp only[looked] at e
   split at e
   · rename_i b
     obtain⟨y,hy,d⟩:=h t b v e
     have:fr.eval (.tmp t)=y:=by simp[Frame.eval,po,hy]
     grind
   · simp at e
 | const c=>simp only[looked,ae.eval,bj] at e;subst e;exact uS g c
 | global _=>simp[looked,ae.eval] at e
 | func f=>simp only[looked,ae.eval,bj] at e;subst e;exact .fn rfl rfl (fun k a x e=>by simp at e) (fun k a x e=>by simp at e)
variable {E : ag}
theorem vH : gH P (looked all o F) E o.op=gH P F.eval E o.op:=by
 refine RV fun x hx=>?_
 cases x with
 | tmp t=>
   have:t∈o.looksAt all:=by
    unfold Oper.looksAt
    grind
   simp only[looked,this,if_true,ae.eval]
 | _=>rfl
theorem mV (h:Zx g all o F.get fr){b:Bool}(ha:tf F all o=some b):Region.wanted o (yielded all fr.tmps)=b:=by
 unfold tf at ha
 split at ha
 · grind[Region.wanted]
 · rename_i j m e
   split at ha<;>try (simp at ha;done)
   rename_i n k
   split at ha<;>try (simp at ha;done)
   rename_i d l
   have a:d∈o.looksAt all:=by
     grind[Oper.looksAt]
   split at ha<;>simp only[bj,reduceCtorEq] at ha
   · rename_i c f
     subst ha
     obtain⟨x,hx,i⟩:=h d a _ f
     cases i
     simp[Region.wanted,e,yielded,k,l,hx]
   · rename_i f
     subst ha
     obtain⟨x,hx,i⟩:=h d a _ f
     cases i
     simp[Region.wanted,e,yielded,k,l,hx]
theorem nV.FB (b:tf F all o=some false):nV P all o F.get E (.bO []) E:=by
 intro g w fr cs i rest m c d f hs hi
 exact⟨w,g,undef,.one (yW c d f (mV hs b)),.bO rfl (fun k a x e=>by simp at e),hi,Ext.refl _ _ _⟩
variable {E' : ag} {v : AV}
theorem nV.val (b:tf F all o=some true)(a:cr o.op=false)(ha:gH P F.eval E o.op=some (.val v E')):nV P all o F.get E v E' := by
 intro g w fr cs i rest m c d e hs hi
 rw[←vH (all:=all)] at ha
 obtain⟨x,w', g', f,h,j,k⟩:=j9 hi (AI hs) ha
 exact⟨w', g', x,.one (AF (gL c d e (mV hs b) (.inr a)) f),h,j,k⟩
theorem nV.skip (c:tf F all o=some true)(b:cr o.op=false)(ha:gH P F.eval E o.op=some (.skip E')):nV P all o F.get E (.bO []) E' := by
 intro g w fr cs i rest m d f h hs hi
 rw[←vH (all:=all)] at ha
 obtain⟨w', g', j,l,n⟩:=j9 hi (AI hs) ha
 exact⟨w', g', undef,.one (Df (gL d f h (mV hs c) (.inr b)) j),.bO rfl (fun k a x e=>by simp at e),l,n⟩
variable {args : List AV}
theorem nV.call {f:FuncId}(q:tf F all o=some true)(j:cr o.op=false)(ha:gH P F.eval E o.op=some (.call f args))(s:fU P f args E fun r n=>r=.ret v∧n=E'):nV P all o F.get E v E' := by
 intro g w fr cs i rest m t p u hs hi
 rw[←vH (all:=all)] at ha
 obtain⟨xs,y,z⟩:=j9 hi (AI hs) ha
 have b:=FV (P:=P) (cs:=cs) (gL t p u (mV hs q) (.inr j)) p y
 obtain⟨e,w', B,⟨r,n,g', ⟨A,k⟩,a,l,hx⟩,d,_,h⟩:=s g w xs z hi (fr::cs)
 subst A;subst k
 cases e with
 | returned x=>exact⟨w', g', x,Steps.head b (Steps.trans d (.one (step_leave_returned h))),a,l,hx⟩
 | panicked c=>exact a.elim
 | outgrown=>exact a.elim
theorem nV.mono {get a:Nat→Option AV}(b:∀ t u,get t=some u→a t=some u)(h:nV P all o get E v E'):nV P all o a E v E' :=
 fun g w fr cs i rest m c d f hs hi=>h g w fr cs i rest m c d f (fun t j u e=>hs t j u (b t u e)) hi
theorem nV.rV {id:Nat}{st:LoopState}{pend:Option Code}{fn n mask:Nat}{env:List (Nat×AV)}{params:List Tmp}{assign body:Code}(hg:tf F all o=some true)(hsp:cr o.op=false)(ha:gH P F.eval E o.op=some (.rV id args))(hlp:E.get id=some (.lp st pend fn n mask env params assign body))(J:args.length=params.length)(h:Reach P (ue id fn n mask env params assign body args) E fun F' U=>Le id F' U fun r S'' => r=.ret v∧S'' = E'):nV P all o F.get E v E' := by
 intro g w fr cs i rest m hrun e1 ho X hi
 rw[←vH (all:=all)] at ha
 obtain⟨l,xs,V,r1,r2⟩:=j9 hi (AI X) ha
 obtain⟨l', a1,a2,a3⟩:=hi.ob _ _ hlp
 rw[V] at a1;simp only[bj] at a1;subst a1
 obtain⟨lo,b1,b2,b3,b4,b5,b6,b7,b8,b9⟩:=a3
 have hsz:xs.size=lo.params.size:=by rw[b7,←r2.1,J];simp
 have hy:(Instr.yield l.cZ xs).run P w=.ok (.round l.cZ lo.fn ((lo.params.zip xs).foldl (fun tmps (x:Tmp×Value)=>tmps.setIfInBounds x.1 x.2) lo.tmps) lo.assign lo.body) w:=by
   simp[Instr.yield,Instr.getLoop,Sem.run_bind,getObj,Sem.run,b1,hsz]
 rw[hy] at r1
 obtain⟨DB,K⟩:∃ x:Frame,x=Frame.round l.cZ lo.fn ((lo.params.zip xs).foldl (fun tmps (x:Tmp×Value)=>tmps.setIfInBounds x.1 x.2) lo.tmps) lo.assign lo.body .normal:=⟨_,rfl⟩
 have hs:=gL (P:=P) (cs:=cs) (w:=w) hrun e1 ho (mV X hg) (.inr hsp)
 have Y:step P (lone fr cs w)=.next (lone DB (fr::cs) w):=by
   refine step_lone_go ?_
   rw[hs,K]
   simp[stepG.apply,r1]
 have R:(lo.params.zip xs).foldl (fun tmps (x:Tmp×Value)=>tmps.setIfInBounds x.1 x.2) lo.tmps=(params.zip xs.toList).foldl (fun tmps (x:Tmp×Value)=>tmps.setIfInBounds x.1 x.2) lo.tmps:=by
   rw[←Array.foldl_toList,Array.toList_zip,b7]
 have hFR:nk P g (ue id fn n mask env params assign body args) DB:=by
   rw[K,R]
   refine⟨b4,?_,?_,.cons (by rw[b8];exact .code) (.cons .NY (.cons (by rw[b9];exact .code) .nil)),.nil,.run,rfl,⟨l,V,rfl⟩⟩
   · show((params.zip xs.toList).foldl _ lo.tmps).size=n
     rw[FW];exact b5
   · intro t v e
     simp only[ae.get,ue] at e
     split at e
     · rename_i hmt
       exact FX b5 J (by simpa using r2) (fun t v _ e=>b6 t v e) t v hmt e
     · simp[qX] at e
 obtain⟨F', U,g', w', f,cs', ⟨hd,I⟩,T,p2,p3,p4,p5,p6,W,p8⟩:=h g w DB (fr::cs) (fr::cs) hFR (by simp[wR,ue]) hi
 have hk:F'.kind=.normal:=p3
 have hcs' : cs' = fr::cs:=by unfold wR at p2;rw[hk] at p2;exact p2
 subst hcs'
 have hfn' : f.fn=fn:=T.fn.trans p4
 have hdf:f.defers=[]:=by have:=T.defers;rw[hd] at this;exact this.Js
 have O:f.kind=.normal:=T.kind.trans hk
 have k:f.roundOf=some l.cZ:=by
   have z:=T.round
   rw[p5] at z
   have hl' := W.oS.ph _ _ V
   cases e:f.roundOf with
   | none=>rw[e] at z;exact z.elim
   | some b=>rw[e] at z;obtain⟨l2,c1,c2⟩:=z;rw[hl'] at c1;simp only[bj] at c1;subst c1;rw[c2]
 rcases I with⟨hmr,st2,pend2,Z,n2,G,L,params2,s,H,M,S,I⟩ | ⟨lch,hmp,I⟩
 · have u:=T.runs hmr
   obtain⟨l2,c1,c2,c3⟩:=p6.ob _ _ M
   rw[W.oS.ph _ _ V] at c1;simp only[bj] at c1;subst c1
   obtain⟨A,d1,d2,d3,d4,d5,d6,d7,d8,d9⟩:=c3
   have hlt:=(BG.1 d1).1
   have C:∀ a,(Instr.endRound l.cZ a).run P w' = .ok (.bool a.isNone) { w' with heap:=w'.heap.setIfInBounds l.cZ (.loop { A with state:=if a.isNone then .ready else .done,pending:=a }) }:=by
     intro a
     simp only[Instr.endRound,Instr.getLoop,Sem.run_bind,getObj,Sem.run,d1,Result.andThen_ok,Sem.run_pure]
     simp[setObj,Sem.run,d1]
   have N:∀(y:LoopState) (a:Option Code),Inv (U.set id (.lp y a Z n2 G L params2 s H)) g' { w' with heap:=w'.heap.setIfInBounds l.cZ (.loop { A with state:=y,pending:=a }) } ∧
       Ext U g' w' (U.set id (.lp y a Z n2 G L params2 s H)) g' { w' with heap:=w'.heap.setIfInBounds l.cZ (.loop { A with state:=y,pending:=a }) }:=by
     intro y a
     exact p6.jr (ob' := .loop { A with state:=y,pending:=a }) M S (W.oS.ph _ _ V) (by simp)
       (by show(w'.heap.setIfInBounds l.cZ _)[l.cZ]? = _;simp[hlt]) (by intro j hj;show(w'.heap.setIfInBounds l.cZ _)[j]? = _;rw[sj,if_neg (Ne.symm hj)]) rfl ⟨rfl,bG _⟩ rfl
       ⟨_,rfl,rfl,rfl,d4,d5,d6,d7,d8,d9⟩
   have p:=T.todo
   rcases I with⟨htn,I⟩ | ⟨c,d,I⟩
   · rw[htn] at p
     generalize q:f.todo=td at p
     cases p
     obtain⟨u1,u2⟩:=N .ready none
     obtain⟨B,Q⟩:=I
     simp only[gQ.ret.injEq] at B
     subst B;subst Q
     refine⟨_,g', .bool true,Steps.head Y (Steps.trans p8 (.one (step_lone_go ?_))),.sc rfl,u1,W.trans u2⟩
     simp[stepG,stepG.exec,u,q,k,Sem.runT_eq,C,doReturn,O]
   · obtain⟨u1,u2⟩:=N .done (some c)
     have hgo:step P (lone f (fr::cs) w')=.next (lone (fr.finish (.bool false)) cs { w' with heap:=w'.heap.setIfInBounds l.cZ (.loop { A with state:=.done,pending:=some c }) }):=by
       refine step_lone_go ?_
       generalize htodo:F'.todo=T' at p d
       unfold CX at d
       split at d
       · simp only[bj] at d;subst d
         generalize q:f.todo=td at p
         cases p with | cons y1 y2=>?_
         cases y1
         simp[stepG,stepG.exec,u,q,k,Sem.runT_eq,C,doReturn,O]
       · split at d<;>simp only[bj,reduceCtorEq] at d
         rename_i xid bb hexq hex
         subst d
         generalize q:f.todo=td at p
         cases p with | cons y1 y2=>?_
         cases y1
         have D:=xx (id:=xid) y2
         rw[hex] at D
         simp only at D
         simp[stepG,stepG.exec,u,q,D,k,Sem.runT_eq,C,doReturn,O]
       · simp at d
     obtain⟨B,Q⟩:=I
     simp only[gQ.ret.injEq] at B
     subst B;subst Q
     exact⟨_,g', .bool false,Steps.head Y (Steps.trans p8 (.one hgo)),.sc rfl,u1,W.trans u2⟩
 · simp at I
end
end Go.Eng
namespace Go.Eng
noncomputable section
theorem tq (j:Nat):∀ m,tb m j=m.testBit j:=by
 intro m
 unfold tb
 rw[Nat.testBit]
 have a:Nat.land (Nat.shiftRight m j) 1=(m >>> j) &&& 1:=rfl
 rw[a]
 have:=Nat.and_one_is_mod (m >>> j)
 rw[this,Nat.and_comm,this]
 rcases Nat.mod_two_eq_zero_or_one (m >>> j) with e | e<;>rw[e]<;>rfl
theorem ajx (a b j:Nat):tb (Nat.lor a b) j=(tb a j||tb b j):=by
 rw[tq,tq,tq]
 exact Nat.testBit_or a b j
theorem aei (k j:Nat):tb (Nat.shiftLeft 1 k) j=true↔k=j:=by
 rw[tq]
 have:Nat.shiftLeft 1 k=2 ^ k:=by show 1 <<< k=2 ^ k;rw[Nat.one_shiftLeft]
 rw[this,Nat.testBit_two_pow]
 simp
theorem Qv (j:Nat):tb 0 j=false:=by rw[tq];exact Nat.zero_testBit j
theorem MD {dr:List (Nat×Nat)}{j:Nat}:∀ {l:List Edge},tb (ax dr l) j=true↔∃ e,e∈l∧Region.binds .any e=true∧(e.on=j∨tb (G3 dr e.on) j=true):=by
 intro l
 induction l with
 | nil=>simp[ax,Qv]
 | cons e r a=>
   simp only[ax]
   cases hb:Region.binds .any e with
   | true=>
     simp only[ajx,xe,aei,a,dE,exists_eq_or_imp,hb,true_and]
   | false=>
     simp only[a,dE,exists_eq_or_imp,hb,dK,false_and,false_or]
theorem RW : ∀(os:List Oper) (i:Nat) (dr:List (Nat×Nat)) (k:Nat),k<i→G3 (fY os i dr) k=G3 dr k:=by
 intro os
 induction os with
 | nil=>intro i dr k _;rfl
 | cons o os a=>
   intro i dr k b
   simp only[fY]
   rw[a (i+1) _ k (by omega)]
   simp only[G3]
   rw[show Nat.beq i k=false from by rw[pg];exact fun e=>by have:=oR e;omega]
theorem qj : ∀(os:List Oper) (i:Nat) (dr:List (Nat×Nat)) (k:Nat) (o:Oper),os[k]? = some o→G3 (fY os i dr) (i+k)=ax (fY (os.take k) i dr) o.after.toList:=by
 intro os
 induction os with
 | nil=>intro i dr k o h;simp at h
 | cons o' os a=>
   intro i dr k o h
   cases k with
   | zero=>
     simp at h;subst h
     simp only[fY,List.take_zero,tZ]
     rw[RW _ _ _ _ (by omega)]
     simp only[G3,vy]
   | succ k=>
     have:=a (i+1) ((i,ax dr o'.after.toList)::dr) k o (by simpa using h)
     simp only[fY,List.take_succ_cons]
     rw[show i+(k+1)=i+1+k from by omega]
     exact this
theorem Hz : ∀(os:List Oper) (i:Nat) (dr:List (Nat×Nat)) (k:Nat),i+os.length≤k→G3 (fY os i dr) k=G3 dr k:=by
 intro os
 induction os with
 | nil=>intro i dr k _;rfl
 | cons o os a=>
   intro i dr k b
   simp only[pk] at b
   simp only[fY]
   rw[a (i+1) _ k (by omega)]
   simp only[G3]
   rw[show Nat.beq i k=false from by rw[pg];exact fun e=>by have:=oR e;omega]
variable {i : Nat}
theorem O4 (os:List Oper){k:Nat}(b:k<i):G3 (fY (os.take i) 0 []) k=G3 (fY os 0 []) k:=by
 cases a:os[k]? with
 | none=>
   have:=List.getElem?_eq_none_iff.1 a
   rw[Jr (by omega)]
 | some o=>
   have h1:=qj os 0 [] k o a
   have h2:=qj (os.take i) 0 [] k o (by rw[tW,if_pos b];exact a)
   rw[List.take_take,Nat.min_eq_left (by omega),←h1] at h2
   simpa using h2
def ze (ops:Array Oper)(i j:Nat):Bool:=tb (G3 (fY ops.toList 0 []) i) j
theorem ME : ∀ {l:List Edge},xV i l=true→∀ e,e∈l→Region.binds .any e=true→e.on<i:=by
 intro l
 induction l with
 | nil=>intro _ e he;simp at he
 | cons a r d=>
   intro h e he hb
   simp only[xV] at h
   cases b:Region.binds .any a with
   | true=>
     rw[b] at h
     cases c:Nat.ble (a.on+1) i with
     | true=>
       rw[c] at h
       rcases dE.1 he with rfl | he
       · exact gw c
       · exact d h e he hb
     | false=>rw[c] at h;simp at h
   | false=>
     rw[b] at h
     rcases dE.1 he with rfl | he
     · rw[b] at hb;simp at hb
     · exact d h e he hb
variable {ops : Array Oper} {o : Oper}
theorem O5 {m:Nat}:∀ {l:List (Nat×Oper)},B1 ops o m l=true→∀ j p,(j,p)∈l→tb m j=false→o.apart ops p=true:=by
 intro l
 induction l with
 | nil=>intro _ j p h;simp at h
 | cons a r c=>
   obtain⟨k,q⟩:=a
   intro h j p hm b
   simp only[B1] at h
   have ha:tb m k=false→o.apart ops q=true:=by
     intro e
     rw[e] at h
     cases d:o.apart ops q with
     | true=>rfl
     | false=>rw[d] at h;simp at h
   have f:B1 ops o m r=true:=by
     cases e:tb m k with
     | true=>rw[e] at h;exact h
     | false=>rw[e,ha e] at h;exact h
   rcases dE.1 hm with e | hm
   · simp only[nj] at e
     obtain⟨rfl,rfl⟩:=e
     exact ha b
   · exact c f j p hm b
theorem IA : ∀(os:List Oper) (i:Nat) (dr:List (Nat×Nat)) (done:List (Nat×Oper)),Qg ops os i dr done=true→∀ k o,os[k]? = some o →
   xV (i+k) o.after.toList=true∧(∀ j p,(j,p)∈done→tb (G3 (fY os i dr) (i+k)) j=false→o.apart ops p=true) ∧
     ∀ b,b<k→∀ p,os[b]? = some p→tb (G3 (fY os i dr) (i+k)) (i+b)=false→o.apart ops p=true:=by
 intro os
 induction os with
 | nil=>intro i dr done _ k o h;simp at h
 | cons a os l=>
   intro i dr done h k o e
   simp only[Qg] at h
   split at h<;>try (simp at h;done)
   rename_i h1
   split at h<;>try (simp at h;done)
   rename_i h2
   cases k with
   | zero=>
     simp at e;subst e
     have m:G3 (fY (a::os) i dr) (i+0)=ax dr a.after.toList:=qj (a::os) i dr 0 a rfl
     refine⟨h1,fun j p c d=>O5 h2 j p c (by rw[m] at d;exact d),fun b f=>by omega⟩
   | succ k=>
     obtain⟨g,q2,q3⟩:=l (i+1) _ _ h k o (by simpa using e)
     have n:i+1+k=i+(k+1):=by omega
     rw[n] at g q2 q3
     refine⟨g,fun j p c d=>q2 j p (K5 _ c) d,fun b f p c d=>?_⟩
     cases b with
     | zero=>simp at c;subst c;exact q2 i _ (jU ..) d
     | succ b=>exact q3 b (by omega) p (by simpa using c) (by rw[show i+1+b=i+(b+1) from by omega];exact d)
theorem xy (h:CY ops=true)(i j:Nat)(a b:Oper)(d:j<i)(e:ze ops i j=false)(f:ops[i]? = some a)(c:ops[j]? = some b):a.apart ops b=true:=by
 obtain⟨_,_,q⟩:=IA ops.toList 0 [] [] h i a (by simpa using f)
 exact q j d b (by simpa using c) (by simpa [ze] using e)
theorem uU (a:ops[i]? = some o):G3 (fY ops.toList 0 []) i=ax (fY (ops.toList.take i) 0 []) o.after.toList:=by
 have:=qj ops.toList 0 [] i o (by simpa using a)
 simpa using this
theorem qM (h:CY ops=true):Ag ops (ze ops):=by
 have low:∀ i o e,ops[i]? = some o→e∈o.after→Region.binds .any e=true→e.on<i:=by
   intro i o e c k hb
   obtain⟨q,_,_⟩:=IA ops.toList 0 [] [] h i o (by simpa using c)
   have:=ME q e (by simpa using k) hb
   omega
 refine⟨low,fun i j a=>?_⟩
 cases c:ops[i]? with
 | none=>
   have l:ops.toList.length≤i:=by have:=Array.getElem?_eq_none_iff.1 c;simpa using this
   unfold ze at a
   rw[Hz _ _ _ _ (by omega)] at a
   rw[show G3 [] i=0 from rfl,Qv] at a
   simp at a
 | some o=>
   unfold ze at a
   rw[uU c] at a
   obtain⟨e,f,g,b⟩:=MD.1 a
   refine⟨o,e,rfl,by simpa using f,g,?_⟩
   rcases b with b | b
   · exact .inl b
   · refine .inr ?_
     have d:=low i o e c (by simpa using f) g
     rw[O4 _ d] at b
     exact b
end
end Go.Eng
namespace Go.Eng
noncomputable section
variable {S : ag} {E1 E2 : Nat → ag}
theorem Vk : ∀ {m:Nat},(∀ j,j<m→E1 j=E2 j)→nn S E1 m=nn S E2 m:=by
 intro m h
 cases m<;>grind[nn]
variable {F : ae} {X : Nat → Bool} {t : Nat}
theorem Vl {ops:Array Oper}{a b:Nat→AV}:∀ {m:Nat},(∀ j,j<m→E1 j=E2 j)→(∀ j,j<m→a j=b j) →
  sv ops F S E1 a X m t=sv ops F S E2 b X m t:=by
 intro m
 induction m<;>grind[sv,nn]
variable {id : Nat}
theorem Vm {c1 c2:Nat→Nat→Option (Option aL)}:∀ {m:Nat},(∀ j,j<m→E1 j=E2 j)→(∀ j,j<m→c1 j=c2 j) →
  ov S E1 c1 X m id=ov S E2 c2 X m id:=by
 intro m
 induction m<;>grind[ov,nn]
variable {α : Type}
def jr (f:Nat→α)(i:Nat)(x:α):Nat→α:=fun j=>if j=i then x else f j
theorem ep (f:Nat→α)(i:Nat)(x:α):jr f i x i=x:=by simp[jr]
theorem fI (f:Nat→α){i j:Nat}(x:α)(h:j<i):jr f i x j=f j:=by grind[jr]
structure DI (P : Program) (F0 : ae) (S0 : ag) (D : rO) (E E' : Nat → ag) (v : Nat → AV) (ch : Nat → Nat → Option (Option aL)) : Prop where
 hi : D.i ≤ D.ops.size
 os : D.os = D.ops.toList.drop D.i
 dr : D.dr = fY (D.ops.toList.take D.i) 0 []
 ok : CY D.ops = true
 DA : lo F0 ≤ D.i
 dn : Lo D.ops F0 S0 E' v ch (lo F0)
 dp : DP D.ops F0 S0 (ze D.ops) E E' v ch P (Eng.lo F0) D.i
 wh : ∀ t u, D.F.get t = some u → ∃ st, sv D.ops F0 S0 E' v (fun _ => true) D.i t = some (u, st)
 nx : D.S.nx = nn S0 E' D.i
 lim : D.S.lim = S0.lim
 agp : S0.lim ≤ S0.nx
 get : ∀ id, D.S.get id = match ov S0 E' ch (fun _ => true) D.i id with
  | some (o, _) => some o
  | none => none
 km : ∀ j, j < D.i → ∀ id, ch j id ≠ none → ∃ c, (j, c) ∈ D.km ∧ c.has id = true
 es : ∀ j, j < D.i → ∀ id, (E j).get id ≠ none → (j, E j) ∈ D.es
 small : ∀ j c, (j, K7.WL c) ∈ D.km → ∀ id, qR c id = true → Ok id
 mode : F0.mode = .run
 todo : Tk D.ops F0 D.F.todo
 jW : D.F.n = F0.n ∧ D.F.defers = F0.defers ∧ D.F.mode = F0.mode ∧ D.F.kind = F0.kind ∧ D.F.fn = F0.fn ∧ D.F.round = F0.round ∧ D.F.cm = F0.cm
theorem ae.Qw {d:Nat}{v u:AV}(h:(F.set d v).get t=some u):(t=d∧t<F.n∧u=v)∨(¬ (t=d∧t<F.n)∧F.get t=some u):=by
 unfold ae.set at h
 cases hb:Nat.ble (d+1) F.n with
 | false=>
   rw[hb] at h
   refine .inr ⟨?_,h⟩
   rintro⟨rfl,a⟩
   rw[GY (show t+1≤F.n from a)] at hb;simp at hb
 | true=>
   have a:d<F.n:=gw hb
   rw[hb] at h
   simp only at h
   by_cases e:t=d
   · subst e
     refine .inl ⟨rfl,a,?_⟩
     cases c:tb F.mask t with
     | true=>
       grind[ae.get,vG]
     | false=>
       grind[ae.get,gT,Nat.beq_refl]
   · refine .inr ⟨fun q=>e q.1,?_⟩
     cases c:tb F.mask d with
     | true=>
       rw[c] at h
       simp only[ae.get] at h ⊢
       cases b:tb F.mask t with
       | true=>grind[tA]
       | false=>grind
     | false=>
       rw[c] at h
       simp only[ae.get] at h ⊢
       cases b:tb F.mask t with
       | true=>grind
       | false=>
         rw[b] at h
         simp only[gT] at h
         rw[show Nat.beq d t=false from by rw[pg];grind[Nat.eq_of_beq_eq_true]] at h
         exact h
theorem ae.Vn (F:ae)(t:Nat)(v:AV):(F.set t v).n=F.n∧(F.set t v).defers=F.defers∧(F.set t v).mode=F.mode∧(F.set t v).kind=F.kind∧(F.set t v).fn=F.fn∧(F.set t v).round=F.round∧(F.set t v).cm=F.cm∧(F.set t v).todo=F.todo:=by
 unfold ae.set
 grind
theorem ae.LO (F:ae)(d:Option Tmp)(v:AV):(F.put d v).n=F.n∧(F.put d v).defers=F.defers∧(F.put d v).mode=F.mode∧(F.put d v).kind=F.kind∧(F.put d v).fn=F.fn∧(F.put d v).round=F.round∧(F.put d v).cm=F.cm∧(F.put d v).todo=F.todo:=by
 cases d with
 | none=>exact⟨rfl,rfl,rfl,rfl,rfl,rfl,rfl,rfl⟩
 | some t=>exact F.Vn t v
variable {P : Program} {F0 : ae} {S0 : ag} {D : rO} {E E' : Nat → ag} {v : Nat → AV} {ch : Nat → Nat → Option (Option aL)} {o : Oper} {os : List Oper}
theorem DI.here (h:DI P F0 S0 D E E' v ch)(a:D.os=o::os) :
   D.ops[D.i]? = some o∧os=D.ops.toList.drop (D.i+1)∧D.i<D.ops.size∧D.ops.toList.take (D.i+1)=D.ops.toList.take D.i++[o]:=by
 have h1:=h.os
 rw[a] at h1
 have h2:D.ops.toList[D.i]? = some o:=by
   have:(D.ops.toList.drop D.i)[0]? = some o:=by rw[←h1];rfl
   grind
 refine⟨by simpa using h2,?_,?_,?_⟩
 · have:(D.ops.toList.drop D.i).tail=os:=by rw[←h1];rfl
   simp_all
 all_goals grind
theorem A4 (o:Oper):∀(os:List Oper) (i:Nat) (dr:List (Nat×Nat)),fY (os++[o]) i dr=(i+os.length,ax (fY os i dr) o.after.toList)::fY os i dr:=by
 intro os
 induction os<;>grind[fY,List.length_cons]
theorem DI.wf (h:DI P F0 S0 D E E' v ch)(b:∀ id o,S0.get id=some o→id<S0.nx){o:aL}(e:D.S.get id=some o):id<D.S.nx:=by
 rw[h.get] at e
 split at e<;>simp only[bj,reduceCtorEq] at e
 rename_i o' st a
 rw[h.nx]
 exact mG (Zo h.dp b (bG _) a) (LL h.dp (bG _) a)
variable {En En' : ag} {vn : AV}
theorem DI.step (h:DI P F0 S0 D E E' v ch)(ho:D.os=o::os){chn:Nat→Option (Option aL)}{L:Nat}(N:L=ax D.dr o.after.toList)(hop:nV P D.ops o D.F.get En vn En')(O:En.nx=D.S.nx)(K:En.nx≤En'.nx)(R:D.S.lim≤En.lim)(z:∀ id ob,En.get id=some ob→D.S.get id=some ob∧∀ j,j<D.i→tb L j=false→ch j id=none)(hR:∀ j,j<D.i→tb L j=false→∀ id,chn id≠none→id<D.S.nx→(E j).get id=none)(T:∀ id ob,chn id=some (some ob)→En'.get id=some ob)(U:∀ id ob,En.get id=some ob→En.lim≤id→chn id≠none)(V:∀ id,chn id≠none→En.lim≤id∧id<En'.nx)(W:∀ id,chn id≠none→En.get id≠none∨En.nx≤id){k:rO}(d1:k.F=Rk D.F o.dst vn)(y:k.ops=D.ops)(d3:k.os=os)(n:k.i=D.i+1)(d5:k.dr=(D.i,L)::D.dr)(s1:k.S.nx=En'.nx)(s2:k.S.lim=D.S.lim)(s3:∀ id,k.S.get id=match chn id with
     | some r=>r
     | none=>D.S.get id)(c1:∀ id,chn id≠none→∃ c,(D.i,c)∈k.km∧c.has id=true)(c2:∀ p,p∈D.km→p∈k.km)(c3:∀ j c,(j,K7.WL c)∈k.km→∀ id,qR c id=true→Ok id)(e1:∀ id,En.get id≠none→(D.i,En)∈k.es)(e2:∀ p,p∈D.es→p∈k.es) :
   DI P F0 S0 k (jr E D.i En) (jr E' D.i En') (jr v D.i vn) (jr ch D.i chn):=by
 obtain⟨h1,h2,h3,h4⟩:=h.here ho
 have B:∀ j,ze D.ops D.i j=tb L j:=by
   intro j
   unfold ze
   rw[uU h1,N,h.dr]
 have C:∀ {m},m≤D.i→∀ j,j<m→jr E' D.i En' j=E' j:=fun s j f=>fI _ _ (by omega)
 have av:∀ {m},m≤D.i→∀ j,j<m→jr v D.i vn j=v j:=fun s j f=>fI _ _ (by omega)
 have ac:∀ {m},m≤D.i→∀ j,j<m→jr ch D.i chn j=ch j:=fun s j f=>fI _ _ (by omega)
 have Q:∀ {m},m≤D.i→nn S0 (jr E' D.i En') m=nn S0 E' m:=fun s=>Vk (C s)
 have H:∀ {m X t},m≤D.i→sv D.ops F0 S0 (jr E' D.i En') (jr v D.i vn) X m t=sv D.ops F0 S0 E' v X m t:=fun s=>Vl (C s) (av s)
 have I:∀ {m X id},m≤D.i→ov S0 (jr E' D.i En') (jr ch D.i chn) X m id=ov S0 E' ch X m id:=fun s=>Vm (C s) (ac s)
 have cs:∀ {i},i<D.i+1→i<D.i∨i=D.i:=fun hi=>by omega
 have Z:=D.F.LO o.dst vn
 rw[←Ew,←d1] at Z
 have dp:DP D.ops F0 S0 (ze D.ops) (jr E D.i En) (jr E' D.i En') (jr v D.i vn) (jr ch D.i chn) P (lo F0) (D.i+1):=by
   refine⟨?_,?_,?_,?_,?_,?_,?_,?_,?_,?_,?_⟩
   · intro i hi
     rcases cs hi with q | rfl
     · rw[fI _ _ q,Q (by omega)];exact h.dp.ae7 i q
     · rw[ep,Q (bG _),O,h.nx]
   · intro i hi
     rcases cs hi with q | rfl
     · rw[fI _ _ q,fI _ _ q];exact h.dp.mono i q
     · rw[ep,ep];exact K
   · intro i hi
     rcases cs hi with q | rfl
     · rw[fI _ _ q];exact h.dp.lim i q
     · rw[ep,←h.lim];exact R
   · intro i hi id ob e
     rcases cs hi with q | rfl
     · rw[fI _ _ q] at e
       obtain⟨st,M⟩:=h.dp.aky i q id ob e
       exact⟨st,by rw[I (by omega)];exact M⟩
     · rw[ep] at e
       obtain⟨a,b⟩:=z id ob e
       rw[h.get] at a
       split at a<;>simp only[bj,reduceCtorEq] at a
       rename_i o' st M
       subst a
       refine⟨st,?_⟩
       rw[I (bG _),←M]
       refine AG fun j f l=>?_
       cases A:ze D.ops D.i j with
       | true=>rfl
       | false=>exact absurd (b j f (by rw[←B];exact A)) l
   · intro i hi j f A id l
     rcases cs hi with q | rfl
     · rw[fI _ _ (show j<D.i by omega)] at l
       rw[fI _ _ q];exact h.dp.Oi i q j f A id l
     · rw[fI _ _ f] at l
       rw[ep]
       cases e:En.get id with
       | none=>rfl
       | some ob=>exact absurd ((z id ob e).2 j f (by rw[←B];exact A)) l
   · intro i hi j f J A id l x
     rcases cs f with q | rfl
     · rw[fI _ _ q] at l x
       rw[fI _ _ (show i<D.i by omega)]
       exact h.dp.Ut i (by omega) j q J A id l x
     · rw[ep] at l x
       rw[fI _ _ J]
       exact hR i J (by rw[←B];exact A) id l (by rw[←O];exact x)
   · intro i hi id ob e
     rcases cs hi with q | rfl
     · rw[fI _ _ q] at e;rw[fI _ _ q];exact h.dp.asK i q id ob e
     · rw[ep] at e;rw[ep];exact T id ob e
   · intro i hi id ob e Y
     rcases cs hi with q | rfl
     · rw[fI _ _ q] at e Y;rw[fI _ _ q];exact h.dp.asL i q id ob e Y
     · rw[ep] at e Y;rw[ep];exact U id ob e Y
   · intro i hi id e
     rcases cs hi with q | rfl
     · rw[fI _ _ q] at e;rw[fI _ _ q,fI _ _ q];exact h.dp.afu i q id e
     · rw[ep] at e;rw[ep,ep];exact V id e
   · intro i hi id e
     rcases cs hi with q | rfl
     · rw[fI _ _ q] at e;rw[fI _ _ q];exact h.dp.akz i q id e
     · rw[ep] at e;rw[ep];exact W id e
   · intro i h0 hi
     rcases cs hi with q | rfl
     · obtain⟨oi,a,b⟩:=h.dp.op i h0 q
       refine⟨oi,a,?_⟩
       rw[fI _ _ q,fI _ _ q,fI _ _ q]
       simp only[H (show i≤D.i by omega)]
       exact b
     · refine⟨o,h1,?_⟩
       rw[ep,ep,ep]
       refine hop.mono fun t u e=>?_
       obtain⟨st,M⟩:=h.wh t u e
       rw[H (bG _),M]
 have hlD:=h.DA
 refine⟨?_,?_,?_,?_,by rw[n];omega,⟨fun j f=>?_,fun j f id=>?_,fun j f t e=>?_⟩,?_,?_,?_,?_,h.agp,?_,?_,?_,c3,h.mode,?_,?_⟩
 · rw[n,y];omega
 · rw[d3,y,n];exact h2
 · rw[d5,y,n,h4,A4,←h.dr,N]
   congr 2
   have:(D.ops.toList.take D.i).length=D.i:=by rw[List.length_take];simp;omega
   omega
 · rw[y];exact h.ok
 · rw[fI _ _ (by omega)];exact h.dn.nx j f
 · rw[fI _ _ (by omega)];exact h.dn.ch j f id
 · rw[y] at e;rw[fI _ _ (by omega)];exact h.dn.v j f t e
 · rw[y,n];exact dp
 · intro t u e
   rw[y,n]
   simp only[sv,ep,true_and]
   have hdo:uJ D.ops D.i=o.dst:=by simp[uJ,h1]
   rw[hdo,H (bG _)]
   rw[d1,Ew] at e
   cases hd:o.dst with
   | none=>
     rw[hd] at e
     rw[if_neg (by simp)]
     exact h.wh t u e
   | some d=>
     rw[hd] at e
     rcases ae.Qw e with⟨q1,q2,q3⟩ | ⟨q1,q2⟩
     · subst q1;subst q3
       rw[if_pos ⟨rfl,by rw[←h.jW.1];exact q2⟩]
       exact⟨_,rfl⟩
     · rw[if_neg]
       · exact h.wh t u q2
       · rintro⟨a,b⟩
         simp only[bj] at a
         exact q1 ⟨a.symm,by rw[h.jW.1];exact b⟩
 · rw[s1,n];simp only[nn,ep]
 · rw[s2];exact h.lim
 · intro id
   rw[s3,n]
   simp only[ov,ep,if_true,I (bG _)]
   cases l:chn id with
   | none=>exact h.get id
   | some r=>cases r<;>rfl
 · intro j f id e
   rw[n] at f
   rcases cs f with q | rfl
   · rw[fI _ _ q] at e
     obtain⟨c,a,b⟩:=h.km j q id e
     exact⟨c,c2 _ a,b⟩
   · rw[ep] at e;exact c1 id e
 · intro j f id e
   rw[n] at f
   rcases cs f with q | rfl
   · rw[fI _ _ q] at e ⊢;exact e2 _ (h.es j q id e)
   · rw[ep] at e ⊢;exact e1 id e
 · rw[Z.2.2.2.2.2.2.2,y];exact h.todo
 · obtain⟨k1,k2,k3,k4,k5,k6,k7⟩:=h.jW
   obtain⟨a1,a2,a3,a4,a5,a6,a7,_⟩:=Z
   exact⟨a1.trans k1,a2.trans k2,a3.trans k3,a4.trans k4,a5.trans k5,a6.trans k6,a7.trans k7⟩
theorem Yk {c:Code}{k:List bf}(h:F.todo=.code c::k):lo F=0:=by unfold lo;rw[h]
theorem DI.start (a:CY D.ops=true)(f:S0.lim≤S0.nx)(k:F0.mode=.run)(b:F0.todo=.code (.region id D.ops true)::D.F.todo)(c:D.F=Ii F0 D.F.todo)(d:D.S=S0)(n:D.os=D.ops.toList)(hi:D.i=0)(l:D.dr=[])(p:D.km=[]) :
   DI P F0 S0 D (fun _=>S0) (fun _=>S0) (fun _=>.top) (fun _ _=>none):=by
 have q:=Yk b
 refine⟨by omega,by grind,by rw[hi,l];rfl,a,by omega,⟨fun _ h=>by omega,fun _ h=>by omega,fun _ h=>by omega⟩,?_,?_,?_,by rw[d],f,?_,?_,?_,?_,k,.inl ⟨id,b⟩,?_⟩
 · rw[hi]
   exact⟨fun _ h=>by omega,fun _ h=>by omega,fun _ h=>by omega,fun _ h=>by omega,fun _ h=>by omega,fun _ h=>by omega,fun _ h=>by omega,fun _ h=>by omega,fun _ h=>by omega,fun _ h=>by omega,fun _ _ h=>by omega⟩
 · intro t u e
   rw[hi]
   have:F0.get t=some u:=by
    rw[c,LM] at e
    simp only[ae.get] at e ⊢
    cases hb:tb F0.mask t with
    | true=>grind
    | false=>grind[qX]
   exact⟨_,by simp only[sv,this];rfl⟩
 · rw[hi,d];rfl
 · grind[ov]
 · intro j m;omega
 · intro j m;omega
 · grind
 · rw[c,LM];grind
theorem IB : ∀(a b:List Oper) (i:Nat) (dr:List (Nat×Nat)),fY (a++b) i dr=fY b (i+a.length) (fY a i dr):=by
 intro a
 induction a<;>grind[fY,List.length_cons]
theorem RX : ∀(os:List Oper) (i:Nat) (dr:List (Nat×Nat)),chain os i dr=true→∀(k:Nat) (o:Oper),os[k]? = some o→ax (fY (os.take k) i dr) o.after.toList+1=2 ^ (i+k):=by
 intro os
 induction os with
 | nil=>grind
 | cons a os c=>
   intro i dr h k o b
   simp only[chain] at h
   split at h
   · rename_i hb
     have hb:=oR hb
     cases k with
     | zero=>
       simp at b;subst b
       simp only[List.take_zero,fY,tZ]
       rw[←Nat.succ_eq_add_one,hb]
       exact Nat.one_shiftLeft i
     | succ k=>
       grind[fY]
   · simp at h
variable {G : ae → ag → Prop}
theorem DI.jN (b:P.follows .mixedOrders=true)(h:DI P F0 S0 D E E' v ch)(n:chain D.os D.i D.dr=true)(p:Reach P (lM D.F (.ops D.ops (List.range' D.i (D.ops.size-D.i))::D.F.todo)) D.S G):Reach P F0 S0 G:=by
 obtain⟨k1,k2,k3,k4,k5,k6,k7⟩:=h.jW
 have a:∀ i,D.i≤i→i<D.ops.size→∀ j,j<i→ze D.ops i j=true:=by
  intro i hi f j d
  obtain⟨k,rfl⟩:∃ k,i=D.i+k:=⟨i-D.i,by omega⟩
  have c:D.ops[D.i+k]? = some D.ops[D.i+k]:=Ab f
  have q:D.os[k]? = some D.ops[D.i+k]:=by rw[h.os,qW];simpa using c
  have:=RX D.os D.i D.dr n k _ q
  have e:fY (D.os.take k) D.i D.dr=fY (D.ops.toList.take (D.i+k)) 0 []:=by
   rw[h.dr,h.os,List.take_add,IB]
   grind
  unfold ze
  rw[uU c,←e,show ax (fY (D.os.take k) D.i D.dr) D.ops[D.i+k].after.toList=2 ^ (D.i+k)-1 from by omega,tq,Nat.testBit_two_pow_sub_one]
  simpa using d
 exact Reach.drawn b h.mode h.todo h.dn h.DA h.dp h.hi (qM h.ok) (fun i h1 h2 j h3=>a i h1 h2 j (by omega)) (fun i j r s _ d x c l=>xy h.ok i j r s d x c l)
  (fun m t aH y q2 q3=>by
   rw[Vc (qM h.ok) h.hi a y q2 q3]
   exact w6.refl fun i hi=>by grind) (F' := lM D.F (.ops D.ops (List.range' D.i (D.ops.size-D.i))::D.F.todo)) ⟨by rw[fw];exact k1,by rw[fw],by rw[fw];exact k2,by rw[fw];exact k3⟩
  (by rw[fw];exact k4) (by rw[fw];exact k5) (by rw[fw];exact k6) (by rw[fw];exact k7)
  (fun t u e=>h.wh t u (by rw[fw] at e;exact e)) h.nx h.lim h.get p
def eS (S:ag):ag:=⟨S.nx,S.lim,.nil⟩
theorem Ot (S:ag)(id:Nat):(eS S).get id=none:=PT.get_nil _ _
theorem DI.again {a wm sm:Nat}(c:CY D.ops=true)(k:S0.lim≤S0.nx)(l:F0.mode=.run)(d:F0.todo=.ops D.ops [D.ops.size,a,wm,sm]::D.F.todo)(f:D.F=lM F0 D.F.todo)(h:D.S=S0)(n:D.os=D.ops.toList.drop a)(hi:D.i=a)(q:a≤D.ops.size)(p:D.dr=fY (D.ops.toList.take a) 0 [])(s:D.km=[]) :
   DI P F0 S0 D (fun _=>eS S0) (fun _=>eS S0) (fun j=>match uJ D.ops j with
    | some t=>(F0.get t).getD .top
    | none=>.top) (fun _ _=>none):=by
 have x:Eng.lo F0=a:=by unfold Eng.lo;rw[d]
 have r:∀ {X m id},ov S0 (fun _=>eS S0) (fun _ _=>none) X m id=ov S0 (fun _=>eS S0) (fun _ _=>none) X 0 id:=fun {X m id}=>Lx (i:=0) (bW _) (fun _ _ _ _=>rfl)
 have b:∀ m,nn S0 (fun _=>eS S0) m=S0.nx:=fun m=>by cases m<;>rfl
 refine⟨by omega,by rw[hi];exact n,by rw[hi];exact p,c,by omega,⟨fun _ _=>rfl,fun _ _ _=>rfl,fun j _ t e=>by rw[e]⟩,?_,?_,?_,by rw[h],k,?_,fun j _ id e=>absurd rfl e,fun j _ id e=>absurd (Ot _ _) e,?_,l,.inr ⟨a,wm,sm,d⟩,?_⟩
 · exact⟨fun i _=>(b i).symm,fun _ _=>bG _,fun _ _=>bG _,fun i _ id o e=>(by rw[Ot] at e;simp at e),fun _ _ _ _ _ _ e=>absurd rfl e,fun _ _ _ _ _ _ _ e=>absurd rfl e,fun _ _ _ _ e=>(by simp at e),fun i _ id o e=>(by rw[Ot] at e;simp at e),fun _ _ _ e=>absurd rfl e,fun _ _ _ e=>absurd rfl e,fun i h1 h2=>by omega⟩
 · intro t u e
   have y:F0.get t=some u:=by
    rw[f,fw] at e
    exact e
   refine⟨S0.nx,?_⟩
   generalize D.i=m
   induction m<;>grind[sv]
 · rw[h,b]
 · grind[ov]
 · grind
 · rw[f,fw];grind
theorem O6 : ∀(os:List Oper) (b i:Nat) (dr:List (Nat×Nat)),behind os b i dr=true→∀(k:Nat) (o:Oper),os[k]? = some o→Nat.land (ax (fY (os.take k) i dr) o.after.toList) b=b:=by
 intro os
 induction os with
 | nil=>grind
 | cons a os c=>
   intro b i dr h k o d
   simp only[behind] at h
   split at h
   · rename_i hb
     have hb:=oR hb
     cases k<;>grind[fY]
   · simp at h
theorem DI.cut (n:P.follows .mixedOrders=true)(h:DI P F0 S0 D E E' v ch)(l:Ij D.os D.i D.dr=true)(A:Reach P (lM D.F (.ops D.ops [D.i,D.ops.size,D.i+1,D.wm,D.sm]::D.F.todo)) D.S G):Reach P F0 S0 G:=by
 obtain⟨k1,k2,k3,k4,k5,k6,k7⟩:=h.jW
 cases m:D.os with
 | nil=>grind[Ij]
 | cons o os=>
 obtain⟨h1,h2,h3,h4⟩:=h.here m
 rw[m] at l
 simp only[Ij] at l
 split at l
 · rename_i hb
   have hb:(ax D.dr o.after.toList).succ=2 ^ D.i:=(oR hb).trans (Nat.one_shiftLeft _)
   have d:∀ i,D.i≤i→i<D.ops.size→∀ j,j<D.i∨(j=D.i∧D.i<i)→ze D.ops i j=true:=by
    intro i hi r j x
    rcases Nat.eq_or_lt_of_le hi with q | q
    · subst q
      unfold ze
      rw[uU h1,←h.dr]
      rw[show ax D.dr o.after.toList=2 ^ D.i-1 from by omega,tq,Nat.testBit_two_pow_sub_one]
      grind
    · obtain⟨k,rfl⟩:∃ k,i=D.i+1+k:=⟨i-(D.i+1),by omega⟩
      have p:D.ops[D.i+1+k]? = some D.ops[D.i+1+k]:=Ab r
      have B:os[k]? = some D.ops[D.i+1+k]:=by rw[h2,qW];simpa using p
      have:=O6 os _ _ _ l k _ B
      have e:fY (os.take k) (D.i+1) ((D.i,ax D.dr o.after.toList)::D.dr)=fY (D.ops.toList.take (D.i+1+k)) 0 []:=by
       rw[List.take_add,IB,h4,A4,←h.dr,h2]
       simp only[sg,List.length_take,Fm,xf,List.length_singleton]
       rw[Nat.min_eq_left h.hi]
      unfold ze
      rw[uU p,←e,tq]
      have y:(Nat.pred (Nat.shiftLeft 1 (Nat.succ D.i))).testBit j=true:=by
       rw[show Nat.shiftLeft 1 (Nat.succ D.i)=2 ^ (D.i+1) from Nat.one_shiftLeft _,Nat.pred_eq_sub_one,Nat.testBit_two_pow_sub_one]
       simp;omega
      rw[←this] at y
      have f:((ax (fY (os.take k) (D.i+1) ((D.i,ax D.dr o.after.toList)::D.dr)) D.ops[D.i+1+k].after.toList) &&& Nat.pred (Nat.shiftLeft 1 (Nat.succ D.i))).testBit j=true:=y
      rw[Nat.testBit_and] at f
      simp only[aS] at f
      exact f.1
   exact Reach.drawn n h.mode h.todo h.dn h.DA h.dp h.hi (qM h.ok) (fun i a b j c=>d i a b j (.inl c)) (fun i j C H _ x I p s=>xy h.ok i j C H x I p s)
    (fun z t aH J q2 q3=>by
      obtain⟨O,t2,l2,K,L,M,N⟩:=aed (qM h.ok) h3 (fun i a b=>d i (by omega) b _ (.inr ⟨rfl,a⟩)) (t:=t) J q2 q3
      rw[K]
      exact .cons h3 (.rest (D.i+1) D.wm D.sm L M N)) (F' := lM D.F (.ops D.ops [D.i,D.ops.size,D.i+1,D.wm,D.sm]::D.F.todo)) ⟨by rw[fw];exact k1,by rw[fw],by rw[fw];exact k2,by rw[fw];exact k3⟩
    (by rw[fw];exact k4) (by rw[fw];exact k5) (by rw[fw];exact k6) (by rw[fw];exact k7)
    (fun t u e=>h.wh t u (by rw[fw] at e;exact e)) h.nx h.lim h.get A
 · simp at l
structure Qi (E E' : ag) : Prop where
 nx : E.nx ≤ E'.nx
 lim : E'.lim = E.lim
 wU : ∀ id, id < E.lim → E'.get id = E.get id
 dead : ∀ id, id < E.nx → E.get id = none → E'.get id = none
 wf : ∀ id o, E'.get id = some o → id < E'.nx
variable {g : Gh} {w : World} {fr : Frame}
theorem DI.inst (h:DI P F0 S0 D E E' v ch)(hf:nk P g F0 fr)(hi:Inv S0 g w) :
   ∃(d:Frame) (w' : World) (g' : Gh),d.mode=.run∧d.todo=[.inRegion D.ops [D.i]]∧Inv D.S g' w' ∧ ∀ t u,D.F.get t=some u→∃ x,d.tmps[t]? = some x∧VR g' u x:=by
 have n:=hf.runs h.mode
 have J:=qM h.ok
 have key:∀ k,lo F0≤k→k≤D.i→∃(d:Frame) (w' : World) (g' : Gh),DJ D.ops F0 S0 E' v ch (fun j=>decide (j<k)) D.i g w fr g' w' d∧d.todo=[.inRegion D.ops (List.range' k (D.i+1-k))]:=by
   intro k f
   induction f with
   | refl=>
     intro _
     exact⟨{ fr with todo:=[.inRegion D.ops (List.range' (lo F0) (D.i+1-lo F0))] },w,g,DJ.init h.dn hf hi _ 0 h.DA,rfl⟩
   | @step k f K=>
     intro hk
     have f:lo F0≤k:=f
     obtain⟨s,w1,A,a,b⟩:=K (by omega)
     rw[show D.i+1-k=(D.i+1-(k+1))+1 from by omega,List.range'_succ] at b
     obtain ⟨B,L,M,_,N,a2⟩:=a.step (cs:=[]) h.dp h.hi (fun i j O Q _ m R T C=>xy h.ok i j O Q m R T C) (fun id o e=>hi.lO e) (i:=k) f (by omega) (by simp)
       (fun j m=>by
        have m:j<k:=by simpa using m
        exact⟨by omega,fun l U=>by have:=J.lt j l U;simp;omega⟩) (fun j m=>by have:=J.lt k j m;simpa using this) n b
     refine⟨B,L,M,a2.congr fun j _=>?_,N⟩
     by_cases e:j=k
     · subst e;rw[pw];simp
     · rw[m9 _ e];simp only[decide_eq_decide];omega
 obtain⟨s,w1,A,a,b⟩:=key D.i h.DA (bG _)
 have s3:=a.congr (Y:=fun _=>true) fun j m=>by simpa using m
 have y:s.mode=.run:=by rw[a.frame];exact n
 refine⟨s,w1,A,y,by rw[b,show D.i+1-D.i=1 from by omega];rfl,⟨s3.ro,?_,?_,?_⟩,?_⟩
 · intro id o e
   rw[h.get] at e
   split at e<;>simp only[bj,reduceCtorEq] at e
   rename_i o' st r
   subst e
   obtain⟨l,a,b,c⟩:=s3.ob id _ st r
   exact⟨l,(Gh.j5 a).2,b,c.mono (Gh.Fq _ _)⟩
 · intro id H o o' l l' e r p V hb
   rw[h.get] at e r
   split at e<;>simp only[bj,reduceCtorEq] at e
   rename_i o1 I W
   split at r<;>simp only[bj,reduceCtorEq] at r
   rename_i o2 z Z
   exact s3.inj id H o1 o2 I z l l' W Z p V hb
 · intro id bE
   cases e:A.ph id with
   | none=>rfl
   | some l=>
     exfalso
     rw[h.nx] at bE
     rcases s3.afv id l e with q | ⟨j,q1,_,_,q3⟩
     · have:=m8 h.dp (bW D.i) (bG _)
       have h0:nn S0 E' 0=S0.nx:=rfl
       omega
     · have:=m8 h.dp (show j+1≤D.i by omega) (bG _)
       omega
 · intro t u e
   obtain⟨st,r⟩:=h.wh t u e
   obtain⟨x,a,b⟩:=s3.wh t u st r
   exact⟨x,a,b.mono (Gh.Fq _ _)⟩
theorem Inv.less {A B:ag}(d:A.nx=B.nx)(a:∀ id o,A.get id=some o→B.get id=some o)(h:Inv B g w):Inv A g w:=
 ⟨h.ro,fun id o e=>h.ob id o (a id o e),fun id b o o' l l' e c=>h.inj id b o o' l l' (a _ _ e) (a _ _ c),fun id bE=>h.fresh id (by grind)⟩
theorem DI.facts (h:DI P F0 S0 D E E' v ch)(hf:nk P g F0 fr)(hi:Inv S0 g w)(l:D.os=o::os)(j:nV P D.ops o D.F.get En vn En')(m:En.nx=D.S.nx)(n:∀ id ob,En.get id=some ob→D.S.get id=some ob):Qi En En' := by
 obtain⟨k,w1,p,a,b,c,d⟩:=h.inst hf hi
 obtain⟨r,s,x,_,_,q,f⟩:=j p w1 k [] D.i [] [] a b (h.here l).1 (fun t _ u e=>d t u e) (c.less m n)
 exact⟨f.nx,f.lim,f.wU,f.dead,fun id o e=>q.lO e⟩
end
end Go.Eng
namespace Go.Eng
noncomputable section
theorem FY (a b:xQ)(id:Nat):qR (a++b) id=(qR a id||qR b id):=by
 induction a with
 | nil=>rfl
 | cons p r d=>
   obtain⟨k,o⟩:=p
   simp only[B4,qR]
   grind
variable {c : xQ} {id : Nat}
theorem vB (h:qR c id=true):∃ ob,(id,ob)∈c:=by
 induction c with
 | nil=>simp[qR] at h
 | cons p r a=>
   obtain⟨k,o⟩:=p
   simp only[qR] at h
   cases hb:Nat.beq k id with
   | true=>
     simp_all
   | false=>
     grind
variable {ob : Option aL}
theorem aej (h:(id,ob)∈c):qR c id=true:=by
 induction c with
 | nil=>simp at h
 | cons p r a=>
   obtain⟨k,o⟩:=p
   simp only[qR]
   rcases dE.1 h with e | h
   · simp_all
   all_goals grind
def C0 (c:xQ)(G:ag):Prop:=∀ id ob,(id,ob)∈c→Ok id∧∀ x,ob=some x→G.get id=some x
variable {G : ag}
theorem C0.lt (h:C0 c G)(e:qR c id=true):Ok id:=by grind
theorem C0.append {a b:xQ}(h:C0 a G)(d:C0 b G):C0 (a++b) G:=by
 intro id ob e
 rcases fc.1 e with q | q
 · exact h id ob q
 · exact d id ob q
theorem uO (hi:Ok id):∀ {c:xQ} {m:PT},(∀ k ob,(k,ob)∈c→Ok k)→qR c id=false→PT.get dep (tU m c) id=PT.get dep m id:=by
 intro c
 induction c with
 | nil=>intro m _ _;rfl
 | cons p r e=>
   obtain⟨k,o⟩:=p
   intro m d h
   simp only[qR] at h
   split at h
   · simp at h
   · rename_i hb
     simp only[tU]
     rw[e (fun a b q=>d a b (K5 _ q)) h]
     exact PT.bt dep m k id o (d k o (jU ..)) hi (by rintro rfl;simp_all)
theorem Ex (hi:Ok id):∀ {c:xQ} {m:PT},(∀ k ob,(k,ob)∈c→Ok k)→qR c id=true→∃ ob,(id,ob)∈c∧PT.get dep (tU m c) id=ob:=by
 intro c
 induction c with
 | nil=>grind[qR]
 | cons p r f=>
   obtain⟨k,o⟩:=p
   intro m d h
   have e:∀ a b,(a,b)∈r→Ok a:=fun a b q=>d a b (K5 _ q)
   simp only[tU]
   cases g:qR r id with
   | true=>
     simp_all
   | false=>
     grind[qR,Nat.eq_of_beq_eq_true,uO,PT.cO]
variable {pi : Nat}
theorem MF : ∀ {l:List (Nat×K7)},ju pi l id=true→∀ j c,(j,c)∈l→tb pi j=false→c.has id=false:=by
 intro l
 induction l with
 | nil=>grind
 | cons p r a=>
   obtain⟨k,d⟩:=p
   intro h j c b e
   simp only[ju] at h
   grind
theorem O7 : ∀ {l:List (Nat×ag)},uf pi l id=true→∀ j E,(j,E)∈l→tb pi j=false→E.get id=none:=by
 intro l
 induction l with
 | nil=>grind
 | cons p r a=>
   obtain⟨k,d⟩:=p
   intro h j c b e
   simp only[uf] at h
   grind
theorem ql {nx:Nat}{es:List (Nat×ag)}:∀ {l:List Nat},ka pi es nx l=true→∀ id,id∈l→id<nx→uf pi es id=true:=by
 intro l
 induction l with
 | nil=>grind
 | cons k r b=>
   intro h id hm a
   simp only[ka] at h
   have d:ka pi es nx r=true:=by
     grind
   rcases dE.1 hm with rfl | hm
   · split at h
     · rename_i hb
       have:=gw hb
       omega
     all_goals grind
   · grind
theorem RY : ∀ {l:List (Nat×ag)},CZ pi l=true→∀ j E,(j,E)∈l→tb pi j=true:=by
 intro l
 induction l with
 | nil=>grind
 | cons p r a=>
   obtain⟨k,d⟩:=p
   intro h j E b
   simp only[CZ] at h
   grind
variable {S : ag} {o : aL}
theorem AJ {km:List (Nat×K7)}(hi:Ok id):∀ {ids:List Nat} {m:PT},PT.get dep (seen S pi km ids m) id=some o →
   PT.get dep m id=some o∨(id∈ids∧S.get id=some o∧ju pi km id=true):=by
 intro ids
 induction ids with
 | nil=>intro m h;exact .inl h
 | cons k r a=>
   intro m h
   simp only[seen] at h
   have up:∀ {m},PT.get dep (seen S pi km r m) id=some o→PT.get dep m id=some o∨(id∈k::r∧S.get id=some o∧ju pi km id=true):=by
    grind
   grind[PT.cO,PT.bt]
theorem Vo (hi:Ok id):∀ {l:List Nat} {m:PT},(∀ k,k∈l→Ok k)→PT.get dep (js m l) id=some o→id∉l∧PT.get dep m id=some o:=by
 intro l
 induction l with
 | nil=>intro m _ h;exact⟨by simp,h⟩
 | cons k r f=>
   intro m d h
   obtain⟨g,q2⟩:=f (m:=PT.set dep m k none) (fun a b=>d a (K5 _ b)) h
   by_cases e:k=id
   · grind[PT.cO]
   · rw[PT.bt dep m k id _ (d k (jU ..)) hi e] at q2
     grind
theorem O8 (hi:Ok id):∀ {l:List Nat} {m:PT},(∀ k,k∈l→Ok k)→PT.get dep (zq S m l) id=if id∈l then S.get id else PT.get dep m id:=by
 intro l
 induction l with
 | nil=>intro m _;simp[zq]
 | cons k r f=>
   intro m d
   simp only[zq]
   rw[f fun a b=>d a (K5 _ b)]
   by_cases g:id∈r
   · grind
   · rw[if_neg g]
     by_cases e:k=id
     · subst e;rw[PT.cO,if_pos (jU ..)]
     · rw[PT.bt dep m k id _ (d k (jU ..)) hi e,if_neg (by grind)]
theorem O9 : ∀ {l:List (Nat×K7)} {bE:List Nat},hidden pi l=some bE→(∀ j c,(j,c)∈l→tb pi j=false→∀ id,c.has id=true→id∈bE)∧∀ id,id∈bE→∃ j c,(j,K7.WL c)∈l∧qR c id=true:=by
 intro l
 induction l with
 | nil=>grind[hidden]
 | cons p r i=>
   obtain⟨k,d⟩:=p
   intro bE h
   simp only[hidden] at h
   cases e:tb pi k with
   | true=>
     grind
   | false=>
     rw[e] at h
     cases d with
     | wide a b=>simp at h
     | WL c=>
       simp only at h
       cases f:hidden pi r with
       | none=>grind
       | some l=>
         rw[f] at h
         simp only[bj] at h
         subst h
         obtain⟨m,q2⟩:=i f
         refine⟨fun j n hm s id g=>?_,fun id hm=>?_⟩
         · rcases dE.1 hm with q | hm
           · simp only[nj] at q;obtain⟨rfl,rfl⟩:=q
             obtain⟨ob,q⟩:=vB (show qR c id=true from g)
             exact fc.2 (.inl (kJ.2 ⟨_,q,rfl⟩))
           · exact fc.2 (.inr (m j n hm s id g))
         all_goals grind[List.mem_cons_self,aej,id,List.mem_cons_of_mem]
variable {E : ag}
theorem FZ : ∀ {ids:List Nat} {id:Nat} {ob:Option aL},(id,ob)∈nZ E S ids→id∈ids∧E.get id≠none∧ob=S.get id:=by
 intro ids
 induction ids with
 | nil=>grind[nZ]
 | cons k r a=>
   intro id ob h
   simp only[nZ] at h
   grind
theorem RZ : ∀ {ids:List Nat} {id:Nat},id∈ids→E.get id≠none→qR (nZ E S ids) id=true:=by
 intro ids
 induction ids with
 | nil=>grind
 | cons k r a=>
   intro id h b
   simp only[nZ]
   cases d:E.get k with
   | some x=>
     simp only[qR]
     cases hb:Nat.beq k id with
     | true=>rfl
     | false=>
       rcases dE.1 h with rfl | h
       all_goals simp_all
   | none=>
     grind
theorem vI {n:Nat}:∀ {k id:Nat} {ob:Option aL},(id,ob)∈sk E n k→n≤id∧id<n+k∧E.get id≠none∧ob=E.get id:=by
 intro k
 induction k with
 | zero=>grind[sk]
 | succ k a=>
   intro id ob h
   simp only[sk] at h
   grind
variable {lo : Nat}
theorem Vp {a:xQ}(h:aab E lo a id=some o):lo≤id∧E.get id=some o:=by
 unfold aab at h
 split at h<;>try (simp at h;done)
 rename_i h1
 split at h<;>try (simp at h;done)
 simp_all
theorem s7 : ∀ {n:Nat} {l:List AV} {b:xQ} {id:Nat} {ob:Option aL},(id,ob)∈mH E lo n l b→(id,ob)∈b∨(lo≤id∧E.get id≠none∧ob=E.get id):=by
 intro n
 induction n with
 | zero=>intro l b id ob h;exact .inl (by cases l<;>exact h)
 | succ n d=>
   intro l b id ob h
   cases l with
   | nil=>exact .inl h
   | cons v r=>
     simp only[mH] at h
     split at h
     · exact d h
     · split at h
       · rename_i o e
         obtain⟨a,c⟩:=Vp e
         grind
       · exact d h
section
variable {P : Program} {F0 : ae} {S0 : ag} {D : rO} {E E' : Nat → ag} {v : Nat → AV} {ch : Nat → Nat → Option (Option aL)} {o : Oper} {os : List Oper}
theorem LQ {E:ag}{v:AV}(h:(id,ob)∈Rm E lo v):lo≤id∧E.get id≠none∧ob=E.get id:=by
 unfold Rm at h
 split at h
 · obtain⟨a,_,b,c⟩:=vI h;exact⟨a,b,c⟩
 · rcases s7 h with q | q
   · simp at q
   · exact q
theorem DI.clear (h:DI P F0 S0 D E E' v ch)(f:ju pi D.km id=true):∀ j,j<D.i→tb pi j=false→ch j id=none:=by
 intro j d g
 cases e:ch j id with
 | none=>rfl
 | some r=>
   obtain⟨c,a,b⟩:=h.km j d id (by rw[e];simp)
   grind[MF]
theorem DI.ajy (h:DI P F0 S0 D E E' v ch)(a:uf pi D.es id=true):∀ j,j<D.i→tb pi j=false→(E j).get id=none:=by
 intro j b d
 cases e:(E j).get id with
 | none=>rfl
 | some r=>
   have:=O7 a j _ (h.es j b id (by rw[e];simp)) d
   grind
theorem DI.next (h:DI P F0 S0 D E E' v ch)(H:D.os=o::os){En En' : ag}{vn:AV}{c:xQ}{Eo:Option ag}
   (y:nV P D.ops o D.F.get En vn En') (z:En.nx=D.S.nx) (l:En.nx≤En'.nx) (t:D.S.lim≤En.lim)
   (u:∀ id ob,En.get id=some ob→D.S.get id=some ob∧∀ j,j<D.i→tb (ax D.dr o.after.toList) j=false→ch j id=none)
   (K:∀ id,qR c id=true→id<D.S.nx→uf (ax D.dr o.after.toList) D.es id=true)
   (d:C0 c En') (I:∀ id ob,En.get id=some ob→En.lim≤id→qR c id=true)
   (B:∀ id,qR c id=true→En.lim≤id∧id<En'.nx∧(En.get id≠none∨En.nx≤id))
   (A:Eo=some En∨(Eo=none∧∀ id,En.get id=none)) :
   ∃ E E' v ch,DI P F0 S0 (D.next o os (ax D.dr o.after.toList) vn En'.nx c Eo) E E' v ch:=by
 have s:∀ k ob,(k,ob)∈c→Ok k:=fun k ob q=>(d k ob q).1
 obtain⟨chn,w⟩:∃ f:Nat→Option (Option aL),f=fun id=>if qR c id=true then some (PT.get dep (tU D.S.m c) id) else none:=⟨_,rfl⟩
 have h1:∀ id,chn id≠none→qR c id=true:=by
   grind
 have h2:∀ id,qR c id=true→chn id=some (PT.get dep (tU D.S.m c) id):=by grind
 refine⟨_,_,_,_,h.step H (chn:=chn) (vn:=vn) rfl y z l t u ?_ ?_ ?_ ?_ ?_ rfl rfl rfl rfl rfl rfl rfl ?_ ?_ ?_ ?_ ?_ ?_⟩
 · grind[DI.ajy]
 · intro id ob e
   have g:=h1 id (by rw[e];simp)
   rw[h2 id g] at e
   obtain⟨ob', a,b⟩:=Ex (m:=D.S.m) (d.lt g) s g
   rw[b] at e
   simp only[bj] at e
   exact(d id ob' a).2 ob e
 · intro id ob e J
   rw[h2 id (I id ob e J)];simp
 · intro id e
   obtain⟨a,b,_⟩:=B id (h1 id e)
   exact⟨a,b⟩
 · intro id e
   exact(B id (h1 id e)).2.2
 · intro id
   by_cases bE:Ok id
   · rw[ag.cE bE]
     show PT.get dep (tU D.S.m c) id=_
     cases q:qR c id with
     | true=>rw[h2 id q]
     | false=>
       rw[uO bE s q]
       have:chn id=none:=by rw[w];simp[q]
       rw[this]
       exact(ag.cE bE).symm
   · rw[ag.qh bE]
     cases q:chn id with
     | none=>exact(ag.qh bE).symm
     | some r=>exact absurd (d.lt (h1 id (by rw[q];simp))) bE
 · intro id e
   have g:=h1 id e
   refine⟨.WL c,?_,g⟩
   simp only[rO.next,Tl,BP]
   cases c with
   | nil=>simp[qR] at g
   | cons p r=>exact jU ..
 · intro p n
   simp only[rO.next,Tl,BP]
   cases c with
   | nil=>exact n
   | cons q r=>exact K5 _ n
 · intro j C x id g
   simp only[rO.next,Tl,BP] at x
   cases c with
   | nil=>exact h.small j C x id g
   | cons q r=>
     rcases dE.1 x with e | e
     · simp only[nj,K7.WL.injEq] at e
       obtain⟨rfl,rfl⟩:=e
       exact d.lt g
     · exact h.small j C e id g
 · intro id e
   rcases A with rfl | ⟨rfl,q⟩
   · exact jU ..
   · exact absurd (q id) e
 · intro p n
   simp only[rO.next,Tl,BP]
   cases Eo with
   | none=>exact n
   | some _=>exact K5 _ n
theorem DI.UC (h:DI P F0 S0 D E E' v ch):D.S.lim≤D.S.nx:=by
 have:=m8 h.dp (bW D.i) (bG _)
 have a:nn S0 E' 0=S0.nx:=rfl
 have:=h.agp
 rw[h.lim,h.nx];omega
theorem DI.news (h:DI P F0 S0 D E E' v ch)(z:∀ id o,S0.get id=some o→id<S0.nx)(A:D.os=o::os){En En' : ag}{vn:AV}{ids:List Nat}{nw:xQ}{Eo:Option ag}
   (r:nV P D.ops o D.F.get En vn En') (p:Qi En En') (k:En.nx=D.S.nx) (d:En.lim=D.S.lim∨En.lim=D.S.nx)
   (f:∀ id ob,En.get id=some ob→D.S.get id=some ob∧∀ j,j<D.i→tb (ax D.dr o.after.toList) j=false→ch j id=none)
   (m:∀ id ob,En.get id=some ob→En.lim≤id→id<En.nx→id∈ids) (n:∀ id,id∈ids→En.get id≠none→En.lim≤id)
   (s:∀ id,id∈ids→En.get id≠none→id<D.S.nx→uf (ax D.dr o.after.toList) D.es id=true)
   (t:∀ id ob,(id,ob)∈nw→En.nx≤id∧En'.get id≠none∧ob=En'.get id)
   (u:Eo=some En∨(Eo=none∧∀ id,En.get id=none)) :
   ∃ E E' v ch,DI P F0 S0 (D.next o os (ax D.dr o.after.toList) vn En'.nx (nZ En En' ids++nw) Eo) E E' v ch:=by
 have C:=h.UC
 have g:∀ {id},qR (nZ En En' ids++nw) id=true→(id∈ids∧En.get id≠none)∨(En.nx≤id∧En'.get id≠none):=by
   intro id e
   rw[FY,xe] at e
   grind[vB,FZ]
 have l:∀ {id},En.get id≠none→id<En.nx:=by
   intro id e
   cases q:En.get id with
   | none=>exact absurd q e
   | some ob=>rw[k];exact h.wf z (f id ob q).1
 refine h.next A r k p.nx (by rcases d with e | e<;>omega) f ?_ ?_ ?_ ?_ u
 · intro id e w
   rcases g e with⟨a,b⟩ | ⟨a,_⟩
   · exact s id a b w
   · omega
 · refine C0.append (fun id ob q=>?_) fun id ob q=>?_
   · obtain⟨a,b,c⟩:=FZ q
     refine⟨?_,fun x hx=>by rw[←c];exact hx⟩
     cases e:En.get id with
     | none=>exact absurd e b
     | some y=>exact ag.iw e
   · obtain⟨a,b,c⟩:=t id ob q
     refine⟨?_,fun x hx=>by rw[←c];exact hx⟩
     cases e:En'.get id with
     | none=>exact absurd e b
     | some y=>exact ag.iw e
 · intro id ob e B
   rw[FY,RZ (m id ob e B (l (by rw[e];simp))) (by rw[e];simp),Bool.true_or]
 · intro id e
   rcases g e with⟨a,b⟩ | ⟨a,b⟩
   · exact⟨n id a b,mG (l b) p.nx,.inl b⟩
   · refine⟨by rcases d with q | q<;>omega,?_,.inr a⟩
     cases q:En'.get id with
     | none=>exact absurd q b
     | some y=>exact p.wf id y q
theorem LS (hi:Ok id):∀ {l:List Nat} {m:PT},(∀ k,k∈l→Ok k)→PT.get dep (js m l) id=if id∈l then none else PT.get dep m id:=by
 intro l
 induction l with
 | nil=>intro m _;simp[js]
 | cons k r f=>
   intro m d
   simp only[js]
   rw[f fun a b=>d a (K5 _ b)]
   by_cases g:id∈r
   · grind
   · rw[if_neg g]
     by_cases e:k=id
     · subst e;rw[PT.cO,if_pos (jU ..)]
     · rw[PT.bt dep m k id _ (d k (jU ..)) hi e,if_neg (by grind)]
theorem DI.bE (h:DI P F0 S0 D E E' v ch){pi:Nat}{bE:List Nat}(hh:hidden pi D.km=some bE) :
   (∀ k,k∈bE→Ok k)∧(∀ id,id∉bE→∀ j,j<D.i→tb pi j=false→ch j id=none)∧∀ nx lim id,(⟨nx,lim,js D.S.m bE⟩:ag).get id=if id∈bE then none else D.S.get id:=by
 obtain⟨l,q2⟩:=O9 hh
 have d:∀ k,k∈bE→Ok k:=fun k f=>let ⟨j,c,a,b⟩:=q2 k f;h.small j c a k b
 refine⟨d,fun id n j g p=>?_,fun nx lim id=>?_⟩
 · cases e:ch j id with
   | none=>rfl
   | some r=>
     obtain⟨c,a,b⟩:=h.km j g id (by rw[e];simp)
     grind
 · by_cases hi:Ok id
   · rw[ag.cE hi]
     show PT.get dep (js D.S.m bE) id=_
     rw[LS hi d,ag.cE hi]
   all_goals grind
theorem DI.wide (h:DI P F0 S0 D E E' v ch)(z:∀ id o,S0.get id=some o→id<S0.nx)(B:D.os=o::os){bE:List Nat}{d:ag}{vn:AV}(hh:hidden (ax D.dr o.after.toList) D.km=some bE)(ha:CZ (ax D.dr o.after.toList) D.es=true)
   (w:nV P D.ops o D.F.get ⟨D.S.nx,D.S.lim,js D.S.m bE⟩ vn d) (l:Qi ⟨D.S.nx,D.S.lim,js D.S.m bE⟩ d) :
   ∃ E E' v ch,DI P F0 S0 (D.TZ o os ⟨D.S.nx,D.S.lim,js D.S.m bE⟩ (ax D.dr o.after.toList) bE vn d) E E' v ch:=by
 obtain⟨x,y,M⟩:=h.bE hh
 generalize n:(⟨D.S.nx,D.S.lim,js D.S.m bE⟩:ag)=En at *
 have k:En.nx=D.S.nx:=by rw[←n]
 have N:En.lim=D.S.lim:=by rw[←n]
 have t:∀ id,En.get id=if id∈bE then none else D.S.get id:=fun id=>by grind
 have i:∀ {id ob},En.get id=some ob→id∉bE∧D.S.get id=some ob:=by
   intro id ob e
   rw[t] at e
   split at e
   · simp at e
   · exact⟨by assumption,e⟩
 obtain⟨chn,g⟩:∃ f:Nat→Option (Option aL),f=fun id=>if id∉bE∧D.S.lim≤id∧id<d.nx∧(En.get id≠none∨En.nx≤id) then some (d.get id) else none:=⟨_,rfl⟩
 have h1:∀ id,chn id≠none→id∉bE∧D.S.lim≤id∧id<d.nx∧(En.get id≠none∨En.nx≤id):=by
   intro id e
   rw[g] at e
   by_cases q:id∉bE∧D.S.lim≤id∧id<d.nx∧(En.get id≠none∨En.nx≤id)
   · exact q
   · exact absurd (if_neg q) e
 have h2:∀ id,(id∉bE∧D.S.lim≤id∧id<d.nx∧(En.get id≠none∨En.nx≤id))→chn id=some (d.get id):=by intro id q;rw[g];exact if_pos q
 have h3:∀ id,¬ (id∉bE∧D.S.lim≤id∧id<d.nx∧(En.get id≠none∨En.nx≤id))→chn id=none:=by intro id q;rw[g];exact if_neg q
 refine⟨_,_,_,_,h.step B (chn:=chn) (vn:=vn) rfl w k l.nx (by omega) ?_ ?_ ?_ ?_ ?_ ?_ rfl rfl rfl rfl rfl rfl rfl ?_ ?_ ?_ ?_ ?_ ?_⟩
 · intro id ob e
   obtain⟨a,b⟩:=i e
   exact⟨b,y id a⟩
 · intro j C H id _ _
   cases e:(E j).get id with
   | none=>rfl
   | some r=>
     have:=RY ha j _ (h.es j C id (by rw[e];simp))
     rw[H] at this;simp at this
 · intro id ob e
   rw[h2 id (h1 id (by rw[e];simp))] at e
   simpa using e
 · intro id ob e O
   obtain⟨a,b⟩:=i e
   rw[h2 id ⟨a,by omega,mG (by rw[k];exact h.wf z b) l.nx,.inl (by rw[e];simp)⟩]
   simp
 · intro id e
   obtain⟨_,a,b,_⟩:=h1 id e
   exact⟨by omega,b⟩
 · intro id e
   exact(h1 id e).2.2.2
 · intro id
   show(⟨d.nx,D.S.lim,zq D.S d.m bE⟩:ag).get id=_
   by_cases hi:Ok id
   · rw[ag.cE hi]
     show PT.get dep (zq D.S d.m bE) id=_
     rw[O8 hi x]
     by_cases q:id∈bE
     · rw[if_pos q,h3 id (fun c=>c.1 q)]
     · rw[if_neg q,←ag.cE hi (s:=d)]
       have A:En.get id=D.S.get id:=by rw[t,if_neg q]
       by_cases c:id∉bE∧D.S.lim≤id∧id<d.nx∧(En.get id≠none∨En.nx≤id)
       · rw[h2 id c]
       · rw[h3 id c]
         by_cases l1:id<D.S.lim
         · simp only[l.wU id (by omega),A]
         · by_cases l2:id<d.nx
           · have l3:En.get id=none∧id<En.nx:=by
              refine⟨?_,?_⟩
              · cases e:En.get id with
                | none=>rfl
                | some _=>exact absurd ⟨q,by omega,l2,.inl (by rw[e];simp)⟩ c
              · refine Nat.lt_of_not_le fun e=>c ⟨q,by omega,l2,.inr e⟩
             rw[l.dead id l3.2 l3.1,←A,l3.1]
           · have I:d.get id=none:=by
              cases e:d.get id with
              | none=>rfl
              | some o=>exact absurd (l.wf id o e) l2
             have J:D.S.get id=none:=by
              cases e:D.S.get id with
              | none=>rfl
              | some o=>exact absurd (mG (h.wf z e) (by have:=l.nx;omega)) l2
             rw[I,J]
   · rw[ag.qh hi]
     cases q:chn id with
     | none=>exact(ag.qh hi).symm
     | some r=>
       have:=h2 id (h1 id (by rw[q];simp))
       rw[q] at this
       simp only[bj] at this
       subst this
       exact(ag.qh hi).symm
 · intro id e
   obtain⟨_,a,b,_⟩:=h1 id e
   refine⟨.wide D.S.lim d.nx,jU .., ?_⟩
   simp only[K7.has]
   rw[GY a]
   exact GY b
 · intro p u;exact K5 _ u
 · intro j c K id L
   rcases dE.1 K with e | e
   · simp at e
   · exact h.small j c e id L
 · intro id e;exact jU ..
 · intro p u;exact K5 _ u
end
end
end Go.Eng
namespace Go.Eng
noncomputable section
def dh (T:FT)(P:Program):Prop:=∀ f e,FT.look T f=some e→P.funcs[f]? = some e.fn∧e.fn.body=some e.body∧nm P f=true ∧
 ∀ x,e.ext=some x→∀ args S v S', x args S=some (v,S')→fU P f args S fun r a=>r=.ret v∧a=S'
def GK (P:Program)(k:cG)(fn:Func)(Q:gQ→dq→ag→Prop):ae→ag→Prop:=
 match mE k with
 | some id=>fun F' S' => Le id F' S' fun r a=>Q r .run a
 | none=>match k with
   | .hole G=>G
   | _=>Fin P fn Q
def qF (P:Program)(D:rO)(k:cG)(Q:gQ→dq→ag→Prop):Prop:=
 ∀ a S0,(∃ E h v ch,DI P a S0 D E h v ch)→Reach P a S0 (GK P k D.fn Q)
def fC (P:Program)(Qf:gQ→ag→Prop):cG→((gQ→dq→ag→Prop)→Prop)→Prop
 | .nil,A=>A fun r _ S=>Qf r S
 | .hole _,A=>A fun _ _ _=>False
 | .call fn F o all rest td next,A=>fC P Qf next fun Q=>A fun r _ S=>Reach P (F.back o all rest td r) S (GK P next fn Q)
 | .rN fn F ds next,A=>fC P Qf next fun Q=>A fun r cm S=>Reach P { F with defers:=ds,mode:=jP r cm } S (GK P next fn Q)
 | .loop fn F d l td next,A=>fC P Qf next fun Q=>A fun r _ S=>Reach P (F.qE d l td r) S (GK P next fn Q)
 | .round fn F o all rest td _ next,A=>fC P Qf next fun Q=>A fun r _ S=>Reach P (F.back o all rest td r) S (GK P next fn Q)
 | .fS D o os E pi bE _ next,A=>∃ v a,A (fun r _ S=>r=.ret v∧S=a)∧fC P Qf next fun Q=>qF P (D.jN o os E pi bE v a) next Q
def br (P:Program)(Qf:gQ→ag→Prop):St→Prop
 | .run fn F S k=>fC P Qf k fun Q=>Reach P F S (GK P k fn Q)
 | .fS D k=>fC P Qf k fun Q=>qF P D k Q
 | .done r S=>Qf r S
 | .fork fn k l=>∀ F S,(F,S)∈l→fC P Qf k fun Q=>Reach P F S (GK P k fn Q)
 | .bad _=>False
section
variable {T : FT} {P : Program} {Qf : gQ → ag → Prop}
theorem fC.mono : ∀ {k:cG} {A j:(gQ→dq→ag→Prop)→Prop},(∀ Q,A Q→j Q)→fC P Qf k A→fC P Qf k j:=by
 intro k
 induction k with
 | nil=>intro A j h q;exact h _ q
 | hole G=>intro A j h q;exact h _ q
 | call fn F o all rest td next m=>intro A j h q;exact m (fun Q=>h _) q
 | rN fn F ds next m=>intro A j h q;exact m (fun Q=>h _) q
 | loop fn F d l td next m=>intro A j h q;exact m (fun Q=>h _) q
 | round fn F o all rest td id next m=>intro A j h q;exact m (fun Q=>h _) q
 | fS D o os E pi bE p next m=>intro A j h q;obtain⟨v,n,a,b⟩:=q;exact⟨v,n,h _ a,b⟩
variable {fn : Func} {F : ae} {S S' : ag} {k : cG}
theorem br.reach {F' : ae}(h:∀ G,Reach P F' S' G→Reach P F S G)(q:br P Qf (.run fn F' S' k)):br P Qf (.run fn F S k):=fC.mono (fun _=>h _) q
variable {Q Q' : gQ → dq → ag → Prop}
theorem GK.mono (j:∀ r cm S,Q r cm S→Q' r cm S)(q:GK P k fn Q F S):GK P k fn Q' F S:=by
 unfold GK at *
 cases h:mE k with
 | none=>
   rw[h] at q
   have key:∀ {Q Q' : gQ→dq→ag→Prop},(∀ r cm S,Q r cm S→Q' r cm S)→Fin P fn Q F S→Fin P fn Q' F S:=by
    intro Q Q' j q
    obtain⟨a,b⟩:=q
    refine⟨a,?_⟩
    grind
   cases k<;>grind
 | some id=>
   rw[h] at q
   obtain⟨a,b⟩:=q
   refine⟨a,?_⟩
   grind
theorem Reach.cons (a:∀ r cm S,Q r cm S→Q' r cm S)(h:Reach P F S (GK P k fn Q)):Reach P F S (GK P k fn Q'):=
 h.mono fun _ _ q=>q.mono a
theorem fC.ends {p:gQ→ag→Prop}(t:∀ r S,Qf r S→p r S):∀ {k:cG} {A:(gQ→dq→ag→Prop)→Prop},(∀ Q Q', (∀ r cm S,Q r cm S→Q' r cm S)→A Q→A Q')→fC P Qf k A→fC P p k A:=by
 intro k
 induction k with
 | nil=>intro A j h;exact j _ _ (fun r _ S q=>t r S q) h
 | hole G=>intro A j h;exact j _ _ (fun r _ S q=>q) h
 | call fn F o all rest td next m=>intro A j h;exact m (fun Q Q' n=>j _ _ fun r cm S q=>q.cons n) h
 | rN fn F ds next m=>intro A j h;exact m (fun Q Q' n=>j _ _ fun r cm S q=>q.cons n) h
 | loop fn F d l td next m=>intro A j h;exact m (fun Q Q' n=>j _ _ fun r cm S q=>q.cons n) h
 | round fn F o all rest td id next m=>intro A j h;exact m (fun Q Q' n=>j _ _ fun r cm S q=>q.cons n) h
 | fS D o os E pi bE y next m=>
   intro A j h
   obtain⟨v,u,a,b⟩:=h
   exact⟨v,u,a,m (fun Q Q' n q w S0 x=>(q w S0 x).cons n) b⟩
theorem fC.all {ι:Type}:∀ {k:cG} {A:ι→(gQ→dq→ag→Prop)→Prop},flat k=true→(∀ i,fC P Qf k (A i))→fC P Qf k fun Q=>∀ i,A i Q:=by
 intro k
 induction k with
 | nil=>intro A _ h;exact h
 | hole G=>intro A _ h;exact h
 | call fn F o all rest td next a=>intro A hf h;exact a (A:=fun i Q=>A i _) hf h
 | rN fn F ds next a=>intro A hf h;exact a (A:=fun i Q=>A i _) hf h
 | loop fn F d l td next a=>intro A hf h;exact a (A:=fun i Q=>A i _) hf h
 | round fn F o all rest td id next a=>intro A hf h;exact a (A:=fun i Q=>A i _) hf h
 | fS D o os E pi bE j next a=>grind[flat]
variable {r : gQ} {cm : dq}
theorem FE (h:br P Qf (back r cm S k)):fC P Qf k fun Q=>Q r cm S:=by
 cases k with
 | nil=>exact h
 | hole G=>exact h.elim
 | call fn F o all rest td next=>
   simp only[back,AH] at h
   exact h
 | rN fn F ds next=>exact h
 | loop fn F d l td next=>exact h
 | round fn F o all rest td id next=>
   cases r with
   | ret v=>exact h.elim
   | wI l=>simp only[back,AH] at h;exact h
 | fS D o os E pi bE a next=>
   cases a with
   | some id=>exact h.elim
   | none=>
     cases r with
     | wI l=>exact h.elim
     | ret v=>exact⟨v,S,⟨rfl,rfl⟩,h⟩
variable {id : Nat}
theorem Yl (h:mE k=some id):back r cm S k=back r .run S k:=by
 cases k with
 | nil=>simp[mE] at h
 | hole G=>simp[mE] at h
 | call fn F o all rest td next=>simp[mE] at h
 | rN fn F ds next=>simp[mE] at h
 | loop fn F d l td next=>simp[mE] at h
 | round fn F o all rest td id next=>cases r<;>rfl
 | fS D o os E pi bE a next=>
   cases a with
   | none=>simp[mE] at h
   | some id=>rfl
variable {v : AV}
theorem Vq (h:mE k=some id)(hs:br P Qf (back (.ret v) cm S k)):False:=by
 cases k with
 | nil=>simp[mE] at h
 | hole G=>simp[mE] at h
 | call fn F o all rest td next=>simp[mE] at h
 | rN fn F ds next=>simp[mE] at h
 | loop fn F d l td next=>simp[mE] at h
 | round fn F o all rest td id next=>exact hs
 | fS D o os E pi bE a next=>
   cases a with
   | none=>simp[mE] at h
   | some id=>exact hs
theorem GK.fin (a:mE k=none)(h:∀ G,k ≠ .hole G):GK P k fn Q=Fin P fn Q:=by
 unfold GK
 grind
theorem Vr {m:dq}(j:F.mode=m)(n:F.defers=[])(h:br P Qf (WZ P fn F S k m)):br P Qf (.run fn F S k):=by
 cases m with
 | run=>exact h.elim
 | returning=>
   simp only[WZ,agn] at h
   cases p:uI P fn F S with
   | none=>rw[p] at h;exact h.elim
   | some v=>
     rw[p] at h
     cases a:mE k with
     | some id=>exact(Vq a h).elim
     | none=>
       have t:∀ G,k ≠ .hole G:=by rintro G rfl;exact h.elim
       refine fC.mono (fun Q q=>Reach.done ?_) (FE h)
       rw[GK.fin a t]
       exact⟨n,.inl ⟨j,v,p,q⟩⟩
 | panicking l=>
   simp only[WZ] at h
   cases a:mE k with
   | none=>
     have t:∀ G,k ≠ .hole G:=by rintro G rfl;exact h.elim
     refine fC.mono (fun Q q=>Reach.done ?_) (FE h)
     rw[GK.fin a t]
     exact⟨n,.inr ⟨l,j,q⟩⟩
   | some id=>
     rw[Yl a] at h
     refine fC.mono (fun Q q=>Reach.done ?_) (FE h)
     simp only[GK,a]
     exact⟨n,.inr ⟨l,j,q⟩⟩
theorem LU (m:dh T P)(n:F.mode ≠ .run){ds:List gS}(j:F.defers=ds)(h:br P Qf (W0 T P fn F S k ds)):br P Qf (.run fn F S k):=by
 cases ds with
 | nil=>exact Vr rfl j h
 | cons d ds=>
   cases d with
   | call f cap args=>
     simp only[W0,ago] at h
     cases a:FT.look T f with
     | none=>rw[a] at h;exact h.elim
     | some e=>
       rw[a] at h
       obtain⟨t1,t2,_,_⟩:=m f e a
       refine fC.mono (fun Q q=>?_) h
       exact Reach.unwind (Q:=fun r cm S' => Reach P { F with defers:=ds,mode:=jP r cm } S' (GK P k fn Q)) n j (ajX.qi e.mask t1 t2 q) fun r cm S' q=>q
   | mQ id=>
     simp only[W0,Zw] at h
     split at h
     · grind[br.reach,Reach.mQ,Nat.le_of_ble_eq_true]
     · exact h.elim
   | uC bs=>exact h.elim
variable {op : Op} {c : Call}
theorem Di (h:gJ op=some c):op=.call c∧∀ b,c.callee ≠ .builtin b:=by
 cases op with
 | call a=>
   simp only[gJ] at h
   grind
 | _=>simp[gJ] at h
theorem fy (h:gJ op=some c):cr op=false:=by
 obtain⟨rfl,hb⟩:=Di h
 grind[cr]
variable {g : Nat} {e : BK} {args : List AV}
theorem kL (q:dh T P)(w:gJ op=some c)(h:rY T F c P=some (g,e,args)) :
   FT.look T g=some e∧∀ S,gH P F.eval S op=some (.call g args):=by
 obtain⟨rfl,hb⟩:=Di w
 unfold rY at h
 split at h<;>try (simp at h;done)
 rename_i as has
 split at h
 · rename_i f hf
   split at h<;>try (simp at h;done)
   rotate_left
   · rename_i y _ j
     split at h<;>try (simp at h;done)
     rename_i g' l n
     split at h<;>simp only[bj,nj,reduceCtorEq] at h
     rename_i u a
     obtain⟨rfl,rfl,rfl⟩:=h
     refine⟨a,fun S=>?_⟩
     obtain⟨m,t,v,first,cap,rfl,x,z,rfl⟩:=De n
     grind[gH,xh]
   rename_i g' first cap j
   split at h<;>simp only[bj,nj,reduceCtorEq] at h
   rename_i u a
   obtain⟨rfl,rfl,rfl⟩:=h
   exact⟨a,fun S=>by simp only[gH,xh,has,hf,j,(q _ _ a).2.2.1]⟩
 · rename_i r m hf
   split at h<;>try (simp at h;done)
   rename_i t v p
   split at h<;>try (simp at h;done)
   rename_i g' b n
   split at h<;>simp only[bj,nj,reduceCtorEq] at h
   rename_i u a
   obtain⟨rfl,rfl,rfl⟩:=h
   exact⟨a,fun S=>by simp only[gH,xh,has,hf,p,n,(q _ _ a).2.2.1]⟩
 · simp at h
section
variable {fn : Func} {F : ae} {S : ag} {k : cG} {all : Array Oper} {i : Nat} {rest : List Nat} {td : List bf} {o : Oper}
variable {G : ae → ag → Prop} {l : List (AV × ag)}
theorem Reach.JK (J:F.mode=.run)(K:F.todo=.ops all (i::rest)::td)(p:all[i]? = some o)(L:tf F all o=some true)(q:cr o.op=false)(j:Ff F S o.op=some l)(h:∀ v S', (v,S')∈l→Reach P (F.after o v all rest td) S' G):Reach P F S G:=by
 unfold Ff at j
 split at j<;>try (simp at j;done)
 rename_i M n
 split at j<;>try (simp at j;done)
 rename_i a ha
 intro g w fr u cs hf x hi
 obtain⟨m,H,N⟩:=hf.split K p
 obtain⟨r,S', z,w', O,q2,q3,q4,R⟩:=Mx (P:=P) (t:=o.type) hi j (K6.of hf M a ha)
 have y:(execOp fr.eval o).run P w=.ok (.value z) w' := by
  obtain⟨dst,op,ty,pos,after,guard⟩:=o
  simp only at n
  subst n
  simp[execOp,q2]
 obtain⟨I,U,V,W⟩:=F.iK o r all rest td
 have A:=AF (P:=P) (cs:=cs) (gL (hf.runs J) H p (lj hf L) (.inr q)) y
 obtain⟨F2,X,Y,Z,B,C,q', r1,r2,r3,r4,r5,r6,r7,r8⟩:=h r S' O g w' (fr.finish z) u cs ((hf.after H N p q3)) (x.congr I W) q4
 exact⟨F2,X,Y,Z,B,C,q', r1,r2,r3.trans I,r4.trans U,r5.trans V,r6,R.trans r7,Steps.head A r8⟩
theorem R0 (h:(v,S')∈l):(np F o v all rest td,S')∈T4 F o all rest td l:=by
 induction l with
 | nil=>simp at h
 | cons p r j=>
   obtain⟨a,b⟩:=p
   rcases dE.1 h with e | h
   · simp only[nj] at e;obtain⟨rfl,rfl⟩:=e;exact jU ..
   · exact K5 _ (j h)
theorem R1 (u:F.mode=.run)(w:F.todo=.ops all (i::rest)::td)(x:all[i]? = some o)(y:tf F all o=some true)(t:cr o.op=false)
   (h:br P Qf (T5 fn F k o all rest td (Ff F S o.op))):br P Qf (.run fn F S k):=by
 cases n:Ff F S o.op with
 | none=>rw[n] at h;exact h.elim
 | some l=>
   rw[n] at h
   have a:br P Qf (Ux fn F k o all rest td l (flat k))→br P Qf (.run fn F S k):=by
     intro h
     cases m:flat k with
     | false=>rw[m] at h;exact h.elim
     | true=>
       rw[m] at h
       have:=fC.all (ι:={ p:AV×ag // p∈l }) (A:=fun p Q=>Reach P (F.after o p.1.1 all rest td) p.1.2 (GK P k fn Q)) m fun p=>by
        have:=h _ _ (R0 (F:=F) (o:=o) (all:=all) (rest:=rest) (td:=td) p.2)
        rw[gr] at this
        exact this
       exact fC.mono (fun Q q=>Reach.JK u w x y t n fun v S' j=>q ⟨(v,S'),j⟩) this
   match l,a,h,n with
   | [],a,h,_=>exact a h
   | [(v,S')],_,h,n=>
     simp only[T5,gr] at h
     refine br.reach (fun G q=>Reach.JK u w x y t n fun v' z j=>?_) h
     grind
   | _::_::_,a,h,_=>exact a h
theorem Vs (x:dh T P)(j:F.mode=.run)(m:F.todo=.ops all (i::rest)::td)(p:all[i]? = some o)(t:tf F all o=some true)(a:cr o.op=false){r:Option de}(ha:gH P F.eval S o.op=r)
   (h:br P Qf (Tm T fn F S k o all rest td r)):br P Qf (.run fn F S k):=by
 cases r with
 | none=>exact R1 j m p t a h
 | some r=>
   cases r with
   | val v S' =>
     grind[Tm,gr,br.reach,Reach.Og]
   | skip S' =>
     grind[Tm,gr,br.reach,Reach.Qr]
   | wI v=>exact br.reach (fun G q=>Reach.ad9 j m p t a ha q) h
   | rV id args=>
     simp only[Tm,Zu] at h
     split at h
     · rename_i st w f n mask env params assign body u
       simp only[agj] at h
       split at h
       · rename_i e y z
         obtain⟨t1,_⟩:=x f e y
         refine fC.mono (fun Q q=>?_) h
         exact Reach.aee j m p t a ha u (oR z) t1 q
       · exact h.elim
     · exact h.elim
   | call f args=>exact h.elim
   | rN f cap args=>exact h.elim
   | ae5=>exact h.elim
theorem R2 (m:F.mode=.run)(n:F.todo=.ops all (i::rest)::td)(t:all[i]? = some o)(u:tf F all o=some true){r:Option de}(ha:gH P F.eval S o.op=r)
   (h:br P Qf (Qh fn F S k o all rest td F.round r)):br P Qf (.run fn F S k):=by
 cases j:F.round with
 | some id=>rw[j] at h;cases r with
   | none=>exact h.elim
   | some r=>cases r<;>exact h.elim
 | none=>
   rw[j] at h
   cases r with
   | none=>exact h.elim
   | some r=>
     cases r with
     | rN f cap args=>
       grind[Qh,gr,br.reach,Reach.aea]
     | ae5=>
       simp only[Qh] at h
       split at h
       · rename_i w
         cases a:uM F.cm with
         | none=>
           rw[a] at h
           simp only[aaf,gr] at h
           exact br.reach (fun G q=>Reach.Us m n t u w j ha (by rw[a];exact q)) h
         | some p=>
           obtain⟨v,cm⟩:=p
           rw[a] at h
           simp only[aaf,gr] at h
           exact br.reach (fun G q=>Reach.Us m n t u w j ha (by rw[a];exact q)) h
       · exact h.elim
     | _=>exact h.elim
variable {b : Bool}
theorem Qx (q:dh T P)(j:F.mode=.run)(m:F.todo=.ops all (i::rest)::td)(n:all[i]? = some o)(p:tf F all o=some true)(a:cr o.op=b)(h:br P Qf (afw T P fn F S k o all rest td b)):br P Qf (.run fn F S k):=by
 cases b with
 | false=>simp only[afw,na] at h;exact Vs q j m n p a rfl h
 | true=>simp only[afw,na] at h;exact R2 j m n p rfl h
theorem R3 {rest:List Nat}(m:F.mode=.run)(j:F.todo=.ops all (i::rest)::td)(x:all[i]? = none)(h:br P Qf (T6 fn F S k all td rest)):br P Qf (.run fn F S k):=by
 unfold T6 at h
 split at h
 · rename_i y wm sm
   unfold Uz at h
   split at h
   · rename_i h1 h2 h3
     refine fC.mono (fun Q q=>?_) h
     by_cases e:i=all.size
     · subst e
       exact q F S ⟨_,_,_,_,DI.again h1 (gw h2) m j rfl rfl rfl rfl (gw h3) rfl rfl⟩
     · intro g w fr t cs hf
       exfalso
       have a:=hf.todo
       rw[j] at a
       generalize fr.todo=u at a
       cases a with | cons n a2=>?_
       cases n with | ops p=>?_
       cases p<;>grind
   · exact h.elim
 · exact h.elim
theorem Vt (u:dh T P)(n:F.mode=.run)(t:F.todo=.ops all (i::rest)::td)(h:br P Qf (aag T P fn F S k all rest td (N4 all i))):br P Qf (.run fn F S k):=by
 rw[tp] at h
 cases j:all[i]? with
 | none=>rw[j] at h;exact R3 n t j h
 | some o=>
   rw[j] at h
   simp only[aag] at h
   cases m:tf F all o with
   | none=>rw[m] at h;exact h.elim
   | some b=>
     rw[m] at h
     cases b with
     | false=>
       grind[Oq,gr,br.reach,Reach.FB]
     | true=>
       simp only[Oq] at h
       cases w:gJ o.op with
       | none=>rw[w] at h;exact Qx u n t j m rfl h
       | some c=>
         rw[w] at h
         have a:=fy w
         simp only[agl] at h
         cases y:rY T F c P with
         | none=>rw[y] at h;exact Qx u n t j m a h
         | some p=>
           obtain⟨g,e,args⟩:=p
           rw[y] at h
           obtain⟨A,q2⟩:=kL u w y
           obtain⟨t1,t2,t3,t4⟩:=u g e A
           simp only[Zv] at h
           cases hx:e.ext with
           | none=>
             rw[hx] at h
             refine fC.mono (fun Q q=>?_) h
             exact Reach.xU (Q:=fun r S' => Reach P (F.back o all rest td r) S' (GK P k fn Q)) n t j m a (q2 S) (fU.qi e.mask t1 t2 q) fun r S' q=>q
           | some x=>
             rw[hx] at h
             simp only[Uy] at h
             cases z:x args S with
             | none=>
               rw[z] at h
               refine fC.mono (fun Q q=>?_) h
               exact Reach.xU (Q:=fun r S' => Reach P (F.back o all rest td r) S' (GK P k fn Q)) n t j m a (q2 S) (fU.qi e.mask t1 t2 q) fun r S' q=>q
             | some p=>
               obtain⟨v,S'⟩:=p
               rw[z] at h
               simp only[agk,gr] at h
               refine br.reach (fun G q=>Reach.xU n t j m a (q2 S) (t4 x hx args S v S' z) fun r C B=>?_) h
               obtain⟨rfl,rfl⟩:=B
               exact q
end
theorem R4 (h:br P Qf (Lz S k v)):fC P Qf k fun Q=>Q (.ret v) .run S:=by
 cases k with
 | round fn F o all rest td id next=>simp only[Lz,AH] at h;exact h
 | fS D o os E pi bE a next=>
   cases a with
   | none=>exact h.elim
   | some id=>exact⟨v,S,⟨rfl,rfl⟩,h⟩
 | _=>exact h.elim
theorem Vu (x:F.mode=.run)(h:br P Qf (T2 F S k (mE k))):br P Qf (.run fn F S k):=by
 cases t:mE k with
 | none=>rw[t] at h;exact h.elim
 | some id=>
   rw[t] at h
   simp only[T2,agi] at h
   split at h
   · rename_i st a f n mask env params assign body y z p
     have p:=gw p
     have fin:∀(v:AV) (u:ag),(∀ Q:gQ→dq→ag→Prop,Q (.ret v) .run u→Le id F S fun r w=>Q r .run w)→br P Qf (Lz u k v)→br P Qf (.run fn F S k):=by
       intro v u A hs
       refine fC.mono (fun Q q=>Reach.done ?_) (R4 hs)
       simp only[GK,t]
       exact A Q q
     cases m:F.todo with
     | nil=>
       rw[m] at h
       exact fin _ _ (fun Q q=>⟨y,.inl ⟨x,st,a,f,n,mask,env,params,assign,body,z,p,.inl ⟨m,q⟩⟩⟩) h
     | cons B r=>
       rw[m] at h
       cases j:CX (B::r) with
       | none=>rw[j] at h;exact h.elim
       | some c=>
         rw[j] at h
         exact fin _ _ (fun Q q=>⟨y,.inl ⟨x,st,a,f,n,mask,env,params,assign,body,z,p,.inr ⟨c,by grind,q⟩⟩⟩) h
   · exact h.elim
variable {td : List bf}
theorem Ym (j:dh T P)(m:F.mode=.run){f:Operand}{params:Array Tmp}{assign body:Code}(n:F.todo=.code (.rangeFunc f params assign body)::td)(h:br P Qf (akB T fn F S k params assign body td F.round (F.eval f))):br P Qf (.run fn F S k):=by
 cases a:F.round with
 | some id=>rw[a] at h;exact h.elim
 | none=>
   rw[a] at h
   cases hf:F.eval f with
   | none=>rw[hf] at h;exact h.elim
   | some v=>
     rw[hf] at h
     cases v with
     | fn g first cap=>
       cases g with
       | func g=>
         simp only[akB] at h
         split at h
         · rename_i e p h1 h2
           obtain⟨t1,t2,t3,_⟩:=j g e p
           have h1:=gw h1
           refine fC.mono (fun Q q=>?_) h
           exact Reach.rangeFunc (Q:=fun r S' => Reach P (F.qE S.nx (S.nx+1) td r) S' (GK P k fn Q)) m n a hf t3 (by omega) (gw h2) (fU.qi e.mask t1 t2 q) fun r S' q=>q
         · exact h.elim
       | _=>exact h.elim
     | _=>exact h.elim
variable {G : ae → ag → Prop}
theorem Reach.inst (h:∀ g w fr,nk P g F fr→Inv S g w→Reach P F S G):Reach P F S G:=
 fun g w fr j cs a b c=>h g w fr a c g w fr j cs a b c
theorem Vv (a:F.mode=.run){all:Array Oper}(j:F.todo=.code (.region id all true)::td)(h:br P Qf (aae T fn F S k id all td)):br P Qf (.run fn F S k):=by
 simp only[aae] at h
 cases h1:CY all with
 | false=>rw[h1] at h;exact h.elim
 | true=>
   cases h2:Nat.ble S.lim S.nx with
   | false=>rw[h1,h2] at h;exact h.elim
   | true=>
     rw[h1,h2] at h
     refine fC.mono (fun Q q=>?_) h
     exact q F S ⟨_,_,_,_,DI.start h1 (gw h2) a j rfl rfl rfl rfl rfl rfl⟩
theorem R5 (u:dh T P)(a:F.mode=.run){l:List bf}(m:F.todo=l)(h:br P Qf (T3 T fn F S k l)):br P Qf (.run fn F S k):=by
 unfold T3 at h
 split at h
 · exact Ym u a m h
 · exact Vv a m h
 · rename_i id td
   unfold agf at h
   split at h
   · rename_i st j f n mask env params assign body p
     split at h
     · rename_i h1 h2
       exact br.reach (fun G q=>Reach.nX a m p h1 (gw h2) q) h
     · exact h.elim
   · exact h.elim
 · rename_i td
   cases t:F.round with
   | none=>rw[t] at h;exact h.elim
   | some id=>
     rw[t] at h
     simp only[Zt,agh] at h
     split at h
     · rename_i j f n mask env params assign body p
       split at h
       · rename_i h2
         exact br.reach (fun G q=>Reach.NY a m t p (gw h2) q) h
       · exact h.elim
     · exact h.elim
 · exact Vu a h
theorem Yn (m:dh T P)(h:br P Qf (akC T P fn F S k F.mode)):br P Qf (.run fn F S k):=by
 cases j:F.mode with
 | run=>
   rw[j] at h
   simp only[akC] at h
   have ae6:br P Qf (agm T fn F S k (Rl F F.todo))→br P Qf (.run fn F S k):=by
     intro h
     cases n:Rl F F.todo with
     | some F' =>
       rw[n] at h
       rw[Qt j] at n
       exact br.reach (fun G q=>Reach.ae6 n (O3 10 q)) h
     | none=>rw[n] at h;exact R5 m j rfl h
   cases a:F.todo with
   | nil=>rw[a] at h;exact ae6 (by rw[a];exact h)
   | cons p r=>
     rw[a] at h
     cases p with
     | ops all l=>
       cases l with
       | nil=>exact ae6 (by rw[a];exact h)
       | cons i rest=>exact Vt m j a h
     | _=>exact ae6 (by rw[a];exact h)
 | returning=>rw[j] at h;exact LU m (by rw[j];simp) rfl h
 | panicking l=>rw[j] at h;exact LU m (by rw[j];simp) rfl h
theorem qF.step {D m:rO}{o:Oper}{os:List Oper}(u:qF P m k Q)(x:D.os=o::os)(n:m.fn=D.fn)(h:∀ a S0 E j v ch,DI P a S0 D E j v ch→(∀ id o,S0.get id=some o→id<S0.nx) →
  (∀ En vn En', nV P D.ops o D.F.get En vn En' → En.nx=D.S.nx→(∀ id ob,En.get id=some ob→D.S.get id=some ob)→Qi En En')→∃ E j v ch,DI P a S0 m E j v ch):qF P D k Q:=by
 intro a S0 ⟨E,j,v,ch,t⟩
 refine Reach.inst fun g w fr hf hi=>?_
 rw[←n]
 exact u a S0 (h a S0 E j v ch t (fun id o e=>hi.lO e) fun En vn En' p y q=>t.facts hf hi x p y q)
section
variable {D : rO} {k : cG} {o : Oper} {os : List Oper}
theorem IC (n:D.os=o::os)(t:tf D.F D.ops o=some false)(h:br P Qf (.fS (D.next o os (ax D.dr o.after.toList) (.bO []) D.S.nx [] none) k)):br P Qf (.fS D k):=by
 refine fC.mono (fun Q q=>?_) h
 refine qF.step q n rfl (fun u S0 E w v ch p x y=>?_)
 have j:∀ id,(⟨D.S.nx,D.S.nx,.nil⟩:ag).get id=none:=by
  intro id
  by_cases h:Ok id
  · rw[ag.cE h];exact PT.get_nil _ _
  · grind
 have a:∀ {id ob},(⟨D.S.nx,D.S.nx,.nil⟩:ag).get id=some ob→False:=by grind
 have m:nV P D.ops o D.F.get ⟨D.S.nx,D.S.nx,.nil⟩ (.bO []) ⟨D.S.nx,D.S.nx,.nil⟩:=nV.FB t
 exact p.next n (En:=⟨D.S.nx,D.S.nx,.nil⟩) (En' := ⟨D.S.nx,D.S.nx,.nil⟩) m rfl (bG _) p.UC (fun id ob e=>(a e).elim) (fun id e=>by simp[qR] at e) (fun id ob e=>by simp at e) (fun id ob e=>(a e).elim)
  (fun id e=>by simp[qR] at e) (.inr ⟨rfl,j⟩)
variable {E : ag} {s : St}
theorem xk (z:D.os=o::os)(L:tf D.F D.ops o=some true)(J:cr o.op=false){ids:List Nat}{BP:Option ag}(h:zd D o os (ax D.dr o.after.toList) k E ids BP (gH P D.F.eval E o.op)=some s)(n:E.nx=D.S.nx)(t:E.lim=D.S.lim∨E.lim=D.S.nx)(j:∀ id ob,E.get id=some ob→D.S.get id=some ob∧ju (ax D.dr o.after.toList) D.km id=true)(u:∀ id ob,E.get id=some ob→E.lim≤id→id<E.nx→id∈ids)(w:∀ id,id∈ids→E.lim≤id)(x:∀ id,id∈ids→id<D.S.nx→uf (ax D.dr o.after.toList) D.es id=true)(y:BP=some E∨(BP=none∧∀ id,E.get id=none))(hs:br P Qf s):br P Qf (.fS D k):=by
 have M:∀(v:AV) (m:ag),nV P D.ops o D.F.get E v m→br P Qf (.fS (D.next o os (ax D.dr o.after.toList) v m.nx (nZ E m ids++sk m E.nx (m.nx-E.nx)) BP) k)→br P Qf (.fS D k):=by
   intro v m p hs
   refine fC.mono (fun Q q=>?_) hs
   refine qF.step q z rfl (fun N S0 E0 K v0 ch A B C=>?_)
   have H:=C E v m p n fun id ob e=>(j id ob e).1
   exact A.news B z p H n t (fun id ob e=>⟨(j id ob e).1,A.clear (j id ob e).2⟩) u (fun id a _=>w id a) (fun id a _=>x id a) (fun id ob e=>by
    obtain⟨a,_,b,c⟩:=vI e;exact⟨a,b,c⟩) y
 cases I:gH P D.F.eval E o.op with
 | none=>grind[zd]
 | some r=>
   rw[I] at h
   cases r<;>grind[zd,Option.some.injEq,nV.val,nV.skip]
variable {lim : Nat}
theorem pC : ∀ {l:List Nat},id∈n4 lim l↔id∈l∧lim≤id:=by
 intro l
 induction l with
 | nil=>simp[n4]
 | cons a r j=>
   simp only[n4]
   split
   · rename_i h
     have h:=gw h
     grind
   · rename_i h
     have h:¬ lim≤a:=fun e=>by rw[GY e] at h;simp at h
     grind
theorem Ey (nx lim id:Nat):(⟨nx,lim,.nil⟩:ag).get id=none:=by
 by_cases h:Ok id
 · rw[ag.cE h];exact PT.get_nil _ _
 · grind
theorem Yo (p:D.os=o::os)(h:br P Qf (akA P D o os (ax D.dr o.after.toList) k (tf D.F D.ops o))):br P Qf (.fS D k):=by
 cases n:tf D.F D.ops o with
 | none=>rw[n] at h;exact h.elim
 | some b=>
   rw[n] at h
   cases b with
   | false=>exact IC p n h
   | true=>
     simp only[akA] at h
     cases j:cr o.op with
     | true=>rw[j] at h;exact h.elim
     | false=>
       rw[j] at h
       simp only[agb,na] at h
       cases t:zd D o os (ax D.dr o.after.toList) k ⟨D.S.nx,D.S.nx,.nil⟩ [] none (gH P D.F.eval ⟨D.S.nx,D.S.nx,.nil⟩ o.op) with
       | some s=>
         rw[t] at h
         exact xk p n j t rfl (.inr rfl) (fun id ob e=>by rw[Ey] at e;simp at e) (fun id ob e=>by grind) (fun id e=>by simp at e) (fun id e=>by simp at e) (.inr ⟨rfl,fun id=>Ey _ _ id⟩) h
       | none=>
         rw[t] at h
         simp only[aga,af9,af8,na] at h
         have a:∀ {nx lim id ob},(⟨nx,lim,seen D.S (ax D.dr o.after.toList) D.km (iD D.F (iU o.op)) .nil⟩:ag).get id=some ob→id∈iD D.F (iU o.op)∧D.S.get id=some ob∧ju (ax D.dr o.after.toList) D.km id=true:=by
           intro nx lim id ob e
           have hi:=ag.iw e
           rw[ag.cE hi] at e
           rcases AJ hi e with q | q
           · rw[PT.get_nil] at q;simp at q
           · exact q
         generalize x:seen D.S (ax D.dr o.after.toList) D.km (iD D.F (iU o.op)) .nil=m at *
         cases h1:zd D o os (ax D.dr o.after.toList) k ⟨D.S.nx,D.S.nx,m⟩ [] (some ⟨D.S.nx,D.S.nx,m⟩) (gH P D.F.eval ⟨D.S.nx,D.S.nx,m⟩ o.op) with
         | some s=>
           rw[h1] at h
           refine xk p n j h1 rfl (.inr rfl) (fun id ob e=>(a e).2) (fun id ob e h1 h2=>?_) (fun id e=>by simp at e) (fun id e=>by simp at e) (.inl rfl) h
           exact absurd h2 (Nat.not_lt.2 h1)
         | none=>
           rw[h1] at h
           simp only[Zr] at h
           cases hu:ka (ax D.dr o.after.toList) D.es D.S.nx (n4 D.S.lim (iD D.F (iU o.op))) with
           | false=>rw[hu] at h;exact h.elim
           | true=>
             rw[hu] at h
             simp only[af7,na] at h
             cases h2:zd D o os (ax D.dr o.after.toList) k ⟨D.S.nx,D.S.lim,m⟩ (n4 D.S.lim (iD D.F (iU o.op))) (some ⟨D.S.nx,D.S.lim,m⟩) (gH P D.F.eval ⟨D.S.nx,D.S.lim,m⟩ o.op) with
             | none=>rw[h2] at h;exact h.elim
             | some s=>
               rw[h2] at h
               exact xk p n j h2 rfl (.inl rfl) (fun id ob e=>(a e).2) (fun id ob e w _=>pC.2 ⟨(a e).1,w⟩) (fun id e=>(pC.1 e).2) (fun id e u=>ql hu id e u) (.inl rfl) h
theorem F3 (E:ag)(pi:Nat)(v:AV)(S:ag):D.jN o os E pi .quiet v S=D.next o os pi v S.nx (Rm S E.nx v) (some E):=rfl
theorem Vw (E:ag)(pi:Nat)(ids:List Nat)(v:AV)(S:ag):D.jN o os E pi (.sep ids) v S=D.next o os pi v S.nx (nZ E S ids++mH S E.nx w7 (v::kids S ids) []) (some E):=rfl
theorem ID (E:ag)(pi:Nat)(bE:List Nat)(v:AV)(S:ag):D.jN o os E pi (.wide bE) v S=D.TZ o os E pi bE v S:=rfl
theorem Ao (E:ag)(pi:Nat)(m:DM)(v:AV)(S:ag):(D.jN o os E pi m v S).fn=D.fn:=by cases m<;>rfl
variable {pi : Nat}
theorem zC (n:dh T P)(q:FT.look T g=some e){bE:DM}(h:br P Qf (B3 g e args E (.fS D o os E pi bE none k))) :
   ∃ v j,fU P g args E (fun r S=>r=.ret v∧S=j)∧fC P Qf k fun Q=>qF P (D.jN o os E pi bE v j) k Q:=by
 obtain⟨t1,t2,t3,t4⟩:=n g e q
 unfold B3 at h
 cases hx:e.ext with
 | none=>
   rw[hx] at h
   obtain⟨v,j,a,b⟩:=h
   exact⟨v,j,fU.qi e.mask t1 t2 a,b⟩
 | some x=>
   rw[hx] at h
   simp only at h
   cases m:x args E with
   | none=>
     rw[m] at h
     obtain⟨v,j,a,b⟩:=h
     exact⟨v,j,fU.qi e.mask t1 t2 a,b⟩
   | some p=>
     obtain⟨v,S'⟩:=p
     rw[m] at h
     exact⟨v,S', t4 x hx args E v S' m,h⟩
theorem Pa {km:List (Nat×K7)}{ob:Option aL}:∀ {c:xQ},(id,ob)∈B2 pi km c→(id,ob)∈c∧ju pi km id=true:=by
 intro c
 induction c with
 | nil=>intro h;simp[B2] at h
 | cons p r a=>
   obtain⟨k,x⟩:=p
   intro h
   simp only[B2] at h
   grind
theorem IE : ∀ {c:xQ},id∈yT lim c↔qR c id=true∧lim≤id:=by
 intro c
 induction c with
 | nil=>simp[yT,qR]
 | cons p r h=>
   obtain⟨k,x⟩:=p
   simp only[yT,qR]
   cases hb:Nat.beq k id with
   | true=>
     grind[Nat.eq_of_beq_eq_true,Nat.le_of_ble_eq_true,Nat.ble_eq_true_of_le]
   | false=>
     have a:id≠k:=by rintro rfl;simp_all
     grind
variable {b : Bool} {bE : List Nat}
theorem Pb (p:dh T P)(n:D.os=o::os)(t:tf D.F D.ops o=some true)(j:cr o.op=false)(u:FT.look T g=some e)(ha:∀ S,gH P D.F.eval S o.op=some (.call g args))(hh:hidden (ax D.dr o.after.toList) D.km=some bE)(hb:CZ (ax D.dr o.after.toList) D.es=b)(h:br P Qf (Om D o os (ax D.dr o.after.toList) k g e args bE b)):br P Qf (.fS D k):=by
 cases b with
 | false=>exact h.elim
 | true=>
   simp only[Om] at h
   obtain⟨v,w,x,hs⟩:=zC p u h
   refine fC.mono (fun Q q=>?_) hs
   refine qF.step q n (Ao ..) (fun C S0 E0 B v0 ch y z A=>?_)
   have a:nV P D.ops o D.F.get ⟨D.S.nx,D.S.lim,js D.S.m bE⟩ v w:=nV.call t j (ha _) x
   rw[ID]
   exact y.wide z n hh hb a (A _ _ _ a rfl fun id ob e=>by
    grind[DI.bE])
theorem Pc (A:dh T P)(y:D.os=o::os)(B:tf D.F D.ops o=some true)(t:cr o.op=false)(C:FT.look T g=some e)(ha:∀ S,gH P D.F.eval S o.op=some (.call g args)){c:xQ}(hu:ka (ax D.dr o.after.toList) D.es D.S.nx (yT D.S.lim c)=b)(L:∀ id ob,(id,ob)∈c→D.S.get id≠none∧ob=D.S.get id∧ju (ax D.dr o.after.toList) D.km id=true)(h:br P Qf (Ol D o os (ax D.dr o.after.toList) k g e args c (yT D.S.lim c) b)):br P Qf (.fS D k):=by
 cases b with
 | false=>exact h.elim
 | true=>
   simp only[Ol] at h
   obtain⟨v,n,H,hs⟩:=zC A C h
   have u:∀ id ob,(id,ob)∈c→Ok id:=by
    grind
   have j:∀ id ob,(⟨D.S.nx,D.S.lim,tU .nil c⟩:ag).get id=some ob→qR c id=true∧D.S.get id=some ob∧ju (ax D.dr o.after.toList) D.km id=true:=by
    intro id ob e
    have hi:=ag.iw e
    rw[ag.cE hi] at e
    have e:PT.get dep (tU .nil c) id=some ob:=e
    cases p:qR c id with
    | false=>grind[uO,PT.get_nil]
    | true=>
      obtain⟨ob', N,q2⟩:=Ex (m:=.nil) hi u p
      grind
   refine fC.mono (fun Q q=>?_) hs
   refine qF.step q y (Ao ..) (fun O S0 E0 M v0 ch z I J=>?_)
   have a:nV P D.ops o D.F.get ⟨D.S.nx,D.S.lim,tU .nil c⟩ v n:=nV.call B t (ha _) H
   have K:=J _ _ _ a rfl fun id ob e=>(j id ob e).2.1
   rw[Vw]
   generalize w:mH n (ag.nx ⟨D.S.nx,D.S.lim,tU .nil c⟩) w7 (v::kids n (yT D.S.lim c)) []=nw
   exact z.news I y a K rfl (.inl rfl) (fun id ob e=>⟨(j id ob e).2.1,z.clear (j id ob e).2.2⟩) (fun id ob e p _=>IE.2 ⟨(j id ob e).1,p⟩) (fun id e _=>(IE.1 e).2) (fun id e _ x=>ql hu id e x) (fun id ob e=>by
    rw[←w] at e
    rcases s7 e with q | q
    · simp at q
    · exact q) (.inl rfl)
theorem Pd (z:dh T P)(w:D.os=o::os)(A:tf D.F D.ops o=some true)(p:cr o.op=false)(B:FT.look T g=some e)(ha:∀ S,gH P D.F.eval S o.op=some (.call g args))(hh:hidden (ax D.dr o.after.toList) D.km=some bE)(h:br P Qf (B3 g e args ⟨D.S.nx,D.S.nx,js D.S.m bE⟩ (.fS D o os ⟨D.S.nx,D.S.nx,js D.S.m bE⟩ (ax D.dr o.after.toList) .quiet none k))):br P Qf (.fS D k):=by
 obtain⟨v,x,C,hs⟩:=zC z B h
 refine fC.mono (fun Q q=>?_) hs
 refine qF.step q w (Ao ..) (fun N S0 E0 L v0 ch y H I=>?_)
 have a:nV P D.ops o D.F.get ⟨D.S.nx,D.S.nx,js D.S.m bE⟩ v x:=nV.call A p (ha _) C
 obtain⟨_,t,M⟩:=y.bE hh
 have n:∀ id ob,(⟨D.S.nx,D.S.nx,js D.S.m bE⟩:ag).get id=some ob→id∉bE∧D.S.get id=some ob:=by
  grind
 have J:=I _ _ _ a rfl fun id ob e=>(n id ob e).2
 rw[F3]
 generalize u:Rm x (ag.nx ⟨D.S.nx,D.S.nx,js D.S.m bE⟩) v=nw
 have:=y.news H w (ids:=[]) (nw:=nw) (Eo:=some ⟨D.S.nx,D.S.nx,js D.S.m bE⟩) a J rfl (.inr rfl) (fun id ob e=>⟨(n id ob e).2,t id (n id ob e).1⟩) (fun id ob e K j=>absurd j (Nat.not_lt.2 K)) (fun id e _=>by simp at e) (fun id e _ j=>by simp at e)
  (fun id ob e=>by
   rw[←u] at e
   exact LQ e) (.inl rfl)
 exact this
theorem R6 (m:dh T P)(n:D.os=o::os)(p:tf D.F D.ops o=some true)(j:cr o.op=false)(t:FT.look T g=some e)(ha:∀ S,gH P D.F.eval S o.op=some (.call g args))(h:br P Qf (On D o os (ax D.dr o.after.toList) k g e args (hidden (ax D.dr o.after.toList) D.km))):br P Qf (.fS D k):=by
 cases hh:hidden (ax D.dr o.after.toList) D.km with
 | none=>rw[hh] at h;exact h.elim
 | some bE=>
   rw[hh] at h
   simp only[On] at h
   cases u:tb D.wm D.i with
   | true=>rw[u] at h;exact Pb m n p j t ha hh rfl h
   | false=>
     rw[u] at h
     simp only at h
     cases w:tb D.sm D.i with
     | true=>
       rw[w] at h
       refine Pc m n p j t ha rfl (fun id ob e=>?_) h
       obtain⟨a,b⟩:=Pa e
       rcases s7 a with q | ⟨_,x,q2⟩
       · simp at q
       · exact⟨x,q2,b⟩
     | false=>rw[w] at h;exact Pd m n p j t ha hh h
theorem Vx (w:D.os=o::os)(y:tf D.F D.ops o=some true)(p:cr o.op=false)(h:br P Qf (aac T P D o os (ax D.dr o.after.toList) k)):br P Qf (.fS D k):=by
 unfold aac at h
 split at h
 · rename_i bE hh t
   simp only[na] at h
   split at h
   · rename_i id args ha
     split at h
     · rename_i st x f n mask env params assign body u
       split at h
       · rename_i e J j
         obtain⟨v,z,A,hs⟩:=h
         refine fC.mono (fun Q q=>?_) hs
         refine qF.step q w rfl (fun K S0 E0 I v0 ch B C H=>?_)
         have a:nV P D.ops o D.F.get ⟨D.S.nx,D.S.lim,js D.S.m bE⟩ v z:=nV.rV y p ha u (oR j) A
         exact B.wide C w hh t a (H _ _ _ a rfl fun id ob e=>by
          grind[DI.bE])
       · exact h.elim
     · exact h.elim
   · exact h.elim
 · exact h.elim
theorem F4 (a:P.follows .mixedOrders=true)(j:chain D.os D.i D.dr=true)(h:br P Qf (Oo D k)):br P Qf (.fS D k):=by
 refine fC.mono (fun Q q=>?_) h
 intro n S0 ⟨E,p,v,ch,m⟩
 exact m.jN a j q
theorem Vy (a:P.follows .mixedOrders=true)(j:Ij D.os D.i D.dr=true)(h:br P Qf (agc D k)):br P Qf (.fS D k):=by
 refine fC.mono (fun Q q=>?_) h
 intro n S0 ⟨E,p,v,ch,m⟩
 exact m.cut a j q
theorem R7 (u:dh T P)(a:P.follows .mixedOrders=true)(h:br P Qf (T1 T P D k D.os)):br P Qf (.fS D k):=by
 cases j:D.os with
 | nil=>rw[j] at h;exact F4 a (by rw[j];rfl) h
 | cons o os=>
   rw[j] at h
   simp only[T1] at h
   cases m:gJ o.op with
   | none=>rw[m] at h;exact Yo j h
   | some c=>
     rw[m] at h
     simp only[age] at h
     cases q:chain (o::os) D.i D.dr with
     | true=>rw[q] at h;exact F4 a (by rw[j];exact q) h
     | false=>
     rw[q] at h
     simp only[Uw] at h
     cases hu:Ij (o::os) D.i D.dr with
     | true=>rw[hu] at h;exact Vy a (by rw[j];exact hu) h
     | false=>
     rw[hu] at h
     simp only[Uv,aad] at h
     cases n:tf D.F D.ops o with
     | none=>rw[n] at h;exact h.elim
     | some b=>
       rw[n] at h
       cases b with
       | false=>exact IC j n h
       | true=>
         simp only[Zs] at h
         cases t:rY T D.F c P with
         | none=>rw[t] at h;exact Vx j n (fy m) h
         | some p=>
           obtain⟨g,e,args⟩:=p
           rw[t] at h
           obtain⟨w,q2⟩:=kL u m t
           exact R6 u j n (fy m) w q2 h
end
variable {s : St}
theorem LV (j:dh T P)(a:P.follows .mixedOrders=true)(h:br P Qf (s.step T P)):br P Qf s:=by
 cases s with
 | run fn F S k=>exact Yn j h
 | fS D k=>exact R7 j a h
 | done r S=>exact h
 | fork fn k l=>exact h
 | bad n=>exact h
theorem Ez (h:dh T P)(a:P.follows .mixedOrders=true):∀(d:Nat) {s:St},br P Qf (St.rep T P d s)→br P Qf s:=by
 intro d
 induction d<;>grind[LV,St.rep]
theorem br.ends {j:gQ→ag→Prop}(m:∀ r S,Qf r S→j r S){s:St}(h:br P Qf s):br P j s:=by
 cases s with
 | run fn F S k=>exact fC.ends m (fun Q Q' a q=>q.cons a) h
 | fS D k=>exact fC.ends m (fun Q Q' a q p S0 t=>(q p S0 t).cons a) h
 | done r S=>exact m r S h
 | fork fn k l=>exact fun F S u=>fC.ends m (fun Q Q' a q=>q.cons a) (h F S u)
 | bad n=>exact h
theorem R8 {l:List (ae×ag)}(h:(F,S)∈l):St.run fn F S k∈T7 fn k l:=by
 induction l with
 | nil=>simp at h
 | cons p r j=>
   obtain⟨a,b⟩:=p
   rcases dE.1 h with e | h
   · simp only[nj] at e;obtain⟨rfl,rfl⟩:=e;exact jU ..
   · exact K5 _ (j h)
def Ends (l:List (AV×ag)):gQ→ag→Prop:=fun r S=>∃ v,r=.ret v∧(v,S)∈l
variable {d : Nat}
theorem Vz (t:dh T P)(j:P.follows .mixedOrders=true):∀ {n:Nat} {l:List St} {m:List (AV×ag)},St.outs T P d n l=some m→∀ s,s∈l→br P (Ends m) s:=by
 intro n
 induction n with
 | zero=>grind[St.outs]
 | succ n u=>
   intro l m h s hs
   cases l with
   | nil=>simp at hs
   | cons s0 r=>
     simp only[St.outs] at h
     split at h<;>try (simp at h;done)
     · rename_i v S p
       split at h<;>simp only[bj,reduceCtorEq] at h
       rename_i l' q
       subst h
       rcases dE.1 hs with rfl | hs
       · exact Ez t j d (by rw[p];exact⟨v,rfl,jU ..⟩)
       · exact br.ends (fun r S ⟨v,a,b⟩=>⟨v,a,K5 _ b⟩) (u q s hs)
     · rename_i fn k l' p
       have:=u h
       rcases dE.1 hs with rfl | hs
       · exact Ez t j d (by rw[p];exact fun F S w=>this _ (fc.2 (.inl (R8 w))))
       all_goals grind
variable {f : Nat}
theorem Pe (p:dh T P)(j:P.follows .mixedOrders=true){n:Nat}{a:List (AV×ag)}(h:St.outs T P d n [St.start T f args S]=some a):fU P f args S (Ends a):=by
 have h1:=Vz p j h _ (jU ..)
 unfold St.start at h1
 cases m:FT.look T f with
 | none=>rw[m] at h1;exact h1.elim
 | some e=>
   rw[m] at h1
   obtain⟨t1,t2,_,_⟩:=p f e m
   exact fU.qi e.mask t1 t2 h1
theorem St.sound (p:dh T P)(j:P.follows .mixedOrders=true)(h:St.rep T P d (St.start T f args S)=.done r S'):fU P f args S fun m a=>m=r∧a=S' := by
 have h1:br P (fun m a=>m=r∧a=S') (St.start T f args S):=Ez p j d (by rw[h];exact⟨rfl,rfl⟩)
 unfold St.start at h1
 cases n:FT.look T f with
 | none=>rw[n] at h1;exact h1.elim
 | some e=>
   rw[n] at h1
   obtain⟨t1,t2,_,_⟩:=p f e n
   exact fU.qi e.mask t1 t2 h1
end
end
end Go.Eng
namespace Go.Eng
noncomputable section
def akD : Bool→Bool→Bool
 | true,true=>true
 | false,false=>true
 | _,_=>false
def akE : Value→Value→Bool
 | .bool a,.bool b=>akD a b
 | .int j a,.int k b=>match decide (j=k) with
   | true=>decide (a=b)
   | false=>false
 | .string a,.string b=>decide (a=b)
 | .pointer none,.pointer none=>true
 | .map none,.map none=>true
 | .nilFunc,.nilFunc=>true
 | .nilIface,.nilIface=>true
 | _,_=>false
theorem aek {a b:Bool}(h:akD a b=true):a=b:=by cases a<;>cases b<;>first | rfl | simp[akD] at h
theorem ael {a b:Value}(h:akE a b=true):a=b:=by
 unfold akE at h
 split at h<;>try (simp at h;done)
 · rw[aek h]
 all_goals grind
mutual
def uD : AV→AV→Bool
 | .sc a,.sc b=>akE a b
 | .agg a,.agg b=>WM a b
 | .ft,.ft=>true
 | .an,.an=>true
 | .lit a,.lit b=>WM a b
 | .dN a,.dN b=>WM a b
 | .bO a,.bO b=>WM a b
 | .eu t a,.eu u b=>match Nat.beq t u with
   | true=>uD a b
   | false=>false
 | .ptr a b c,.ptr x y z=>match Nat.beq a x,Nat.beq b y with
   | true,true=>Nat.beq c z
   | _,_=>false
 | .ai a b c,.ai x y z=>match Nat.beq a x,Nat.beq b y with
   | true,true=>Nat.beq c z
   | _,_=>false
 | .cQ a,.cQ b=>Nat.beq a b
 | .clip a,.clip b=>uD a b
 | _,_=>false
def WM : List AV→List AV→Bool
 | [],[]=>true
 | a::r,b::s=>match uD a b with
   | true=>WM r s
   | false=>false
 | _,_=>false
end
theorem ET {a b:Nat}(h:Nat.beq a b=true):a=b:=by simp_all
mutual
theorem EA : ∀(a b:AV),uD a b=true→a=b
 | .sc a,b,h=>by cases b<;>simp only[uD,dK] at h;rw[ael h]
 | .agg a,b,h=>by cases b<;>simp only[uD,dK] at h;rw[B5 a _ h]
 | .ft,b,h=>by cases b<;>simp only[uD,dK] at h;rfl
 | .an,b,h=>by cases b<;>simp only[uD,dK] at h;rfl
 | .lit a,b,h=>by cases b<;>simp only[uD,dK] at h;rw[B5 a _ h]
 | .dN a,b,h=>by cases b<;>simp only[uD,dK] at h;rw[B5 a _ h]
 | .bO a,b,h=>by cases b<;>simp only[uD,dK] at h;rw[B5 a _ h]
 | .eu t a,b,h=>by
   cases b<;>simp only[uD,dK] at h
   split at h
   · rename_i h1;rw[ET h1,EA a _ h]
   · simp at h
 | .ptr a b c,d,h=>by
   cases d<;>simp only[uD,dK] at h
   split at h
   · rename_i h1 h2;rw[ET h1,ET h2,ET h]
   · simp at h
 | .ai a b c,d,h=>by
   cases d<;>simp only[uD,dK] at h
   split at h
   · rename_i h1 h2;rw[ET h1,ET h2,ET h]
   · simp at h
 | .cQ a,b,h=>by cases b<;>simp only[uD,dK] at h;rw[ET h]
 | .clip a,b,h=>by cases b<;>simp only[uD,dK] at h;rw[EA a _ h]
 | .fn _ _ _,b,h=>by simp[uD] at h
 | .rV _,b,h=>by simp[uD] at h
 | .top,b,h=>by simp[uD] at h
theorem B5 : ∀(a b:List AV),WM a b=true→a=b
 | [],b,h=>by cases b<;>simp only[WM,dK] at h;rfl
 | a::r,b,h=>by
   cases b<;>simp only[WM,dK] at h
   split at h
   · rename_i h1;rw[EA a _ h1,B5 r _ h]
   · simp at h
end
def Jt (k:Nat):List (AV×ag)→Option AV
 | []=>none
 | [(v,S)]=>vh S k v
 | (v,S)::r=>match vh S k v,Jt k r with
   | some a,some b=>match uD a b with
     | true=>some a
     | false=>none
   | _,_=>none
def closed (T:FT)(P:Program)(n d k f:Nat)(args:List AV):Option AV:=
 match St.outs T P d n [St.start T f args ag.empty] with
 | some l=>Jt k l
 | none=>none
variable {k : Nat}
theorem Pf : ∀ {l:List (AV×ag)} {v' : AV},Jt k l=some v' → ∀ v S,(v,S)∈l→vh S k v=some v' := by
 intro l
 induction l with
 | nil=>grind
 | cons p r j=>
   obtain⟨u,U⟩:=p
   intro v' h v S e
   cases r with
   | nil=>
     simp only[ug,nj] at e
     obtain⟨rfl,rfl⟩:=e
     exact h
   | cons q r=>
     simp only[Jt] at h
     split at h<;>try (simp at h;done)
     rename_i a b ha hb
     split at h<;>simp only[bj,reduceCtorEq] at h
     rename_i i
     have i:=EA _ _ i
     grind
section
variable {T : FT} {P : Program}
variable {n d f : Nat} {args : List AV} {v : AV}
theorem Kb (i:dh T P)(e:P.follows .mixedOrders=true)(h:closed T P n d k f args=some v):fU P f args ag.empty fun r _=>r=.ret v:=by
 unfold closed at h
 split at h<;>try (simp at h;done)
 rename_i l j
 exact(Pe i e j).freeze fun r m ⟨u,a,b⟩=>⟨u,a,Pf h u m b⟩
theorem Kc (b:dh T P)(a:P.follows .mixedOrders=true)(h:closed T P n d k f args=some v)(ha:cF args=true)(e:aV v=true)(S:ag) :
 fU P f args S fun r i=>r=.ret v∧i=S:=(Kb b a h).frame ha e S
def zt : List (List AV×AV)→List AV→ag→Option (AV×ag)
 | [],_,_=>none
 | (a,v)::r,args,S=>match WM args a with
   | true=>some (v,S)
   | false=>zt r args S
def Fg (P:Program)(f:Nat)(l:List (List AV×AV)):Prop:=∀ a v,(a,v)∈l→∀ S,fU P f a S fun r b=>r=.ret v∧b=S
theorem vS : ∀ {l:List (List AV×AV)},Fg P f l→∀ args S v b,zt l args S=some (v,b)→fU P f args S fun r e=>r=.ret v∧e=b:=by
 intro l
 induction l with
 | nil=>grind[zt]
 | cons p r j=>
   obtain⟨a,u⟩:=p
   intro i args S v b h
   simp only[zt] at h
   split at h
   · rename_i m
     simp only[bj,nj] at h
     obtain⟨rfl,rfl⟩:=h
     rw[B5 _ _ m]
     exact i a u (jU ..) S
   · exact j (fun a v o=>i a v (K5 _ o)) args S v b h
theorem Fg.nil : Fg P f []:=fun a v h=>by simp at h
theorem Fg.cons {a:List AV}{l:List (List AV×AV)}(h:∀ S,fU P f a S fun r i=>r=.ret v∧i=S)(t:Fg P f l):Fg P f ((a,v)::l):=by
 intro b u hm
 rcases dE.1 hm with e | hm
 · grind
 · exact t b u hm
def Qj (n:Nat):xQ→Bool
 | []=>true
 | (id,_)::r=>match Nat.ble n id with
   | true=>Qj n r
   | false=>false
def C1 : xQ→List Nat
 | []=>[]
 | (id,_)::r=>id::C1 r
def B6 (k:Nat)(v:AV)(S:ag)(c:xQ):Option (AV×ag):=
 match Qj S.lim c with
 | true=>match vh ⟨S.nx,S.lim,tU .nil c⟩ k v with
   | some v' => some (v', ⟨S.nx,S.lim,js S.m (C1 c)⟩)
   | none=>none
 | false=>none
def Ou (T:FT)(P:Program)(d k f:Nat)(args:List AV)(S:ag):Option (AV×ag):=
 match St.rep T P d (St.start T f args S) with
 | .done (.ret v) S1=>B6 k v S1 (mH S1 0 w7 [v] [])
 | _=>none
theorem IF : ∀ {c:xQ},Qj n c=true→∀ id ob,(id,ob)∈c→n≤id:=by
 intro c
 induction c with
 | nil=>grind
 | cons p r a=>
   obtain⟨k,x⟩:=p
   intro h id ob hm
   simp only[Qj] at h
   split at h
   · rename_i hb
     rcases dE.1 hm with e | hm
     · simp_all
     · exact a h id ob hm
   · simp at h
theorem yd {id:Nat}:∀ {c:xQ},id∈C1 c↔qR c id=true:=by
 intro c
 induction c with
 | nil=>simp[C1,qR]
 | cons p r a=>
   obtain⟨k,x⟩:=p
   simp only[C1,qR,dE]
   cases hb:Nat.beq k id with
   | true=>simp[ET hb]
   | false=>
     have:id≠k:=by rintro rfl;simp_all
     simp[this,a]
variable {S S1 S2 : ag} {c : xQ} {g : Gh}
theorem Ext.ye {v' : AV}(M:∀ id ob,(id,ob)∈c→S1.get id≠none∧ob=S1.get id)(hf:B6 k v S1 c=some (v', S2)){g' : Gh}{w w' : World}(j:Inv S1 g' w')(h:Ext S g w S1 g' w') :
   ∃ H,(∀ x,VR g' v x→VR H v' x)∧Inv S2 H w' ∧ Ext S g w S2 H w' := by
 have s:∀ id ob,(id,ob)∈c→Ok id:=by
   grind
 unfold B6 at hf
 split at hf<;>try (simp at hf;done)
 rename_i C
 split at hf<;>simp only[bj,nj,reduceCtorEq] at hf
 rename_i v0 D
 obtain⟨rfl,rfl⟩:=hf
 obtain⟨A,y⟩:∃ x:ag,x=⟨S1.nx,S1.lim,tU .nil c⟩:=⟨_,rfl⟩
 obtain⟨S2,r⟩:∃ x:ag,x=⟨S1.nx,S1.lim,js S1.m (C1 c)⟩:=⟨_,rfl⟩
 rw[←y] at D
 rw[←r]
 have I:∀ id o,A.get id=some o→qR c id=true∧S1.get id=some o:=by
   intro id o e
   have hi:=ag.iw e
   rw[ag.cE hi,y] at e
   have e:PT.get dep (tU .nil c) id=some o:=e
   cases R:qR c id with
   | false=>rw[uO hi s R,PT.get_nil] at e;simp at e
   | true=>
     obtain⟨ob,B,q2⟩:=Ex (m:=.nil) hi s R
     rw[q2] at e
     obtain⟨_,b⟩:=M id ob B
     exact⟨rfl,by rw[←b];exact e⟩
 have h2:∀ id o,S2.get id=some o→qR c id=false∧S1.get id=some o:=by
   intro id o e
   have hi:=ag.iw e
   rw[ag.cE hi,r] at e
   have e:PT.get dep (js S1.m (C1 c)) id=some o:=e
   obtain⟨a,b⟩:=Vo hi (fun k J=>by obtain⟨ob,q⟩:=vB (yd.1 J);exact s k ob q) e
   refine⟨?_,by rw[ag.cE hi];exact b⟩
   cases q:qR c id with
   | false=>rfl
   | true=>exact absurd (yd.2 q) a
 have N:∀ id,qR c id=false→S2.get id=S1.get id:=by
   intro id e
   by_cases hi:Ok id
   · rw[ag.cE hi,ag.cE hi,r]
     show PT.get dep (js S1.m (C1 c)) id=_
     rw[LS hi (fun k J=>by obtain⟨ob,q⟩:=vB (yd.1 J);exact s k ob q),if_neg]
     intro q;rw[yd.1 q] at e;simp at e
   · rw[ag.qh hi,ag.qh hi]
 have E:Inv A g' w' := j.less (by rw[y]) fun id o e=>(I id o e).2
 have z:=Gh.jT E
 have i:∀ b c0,(g'.freeze A w').ro b=some c0→g'.ro b=some c0∨(∃ t fz,w'.heap[b]? = some (.cells c0 t fz))∧∃ id o l,A.get id=some o∧g'.ph id=some l∧l.cZ=b:=by
   intro b c0 e
   simp only[Gh.freeze] at e
   split at e
   · rename_i W X;simp only[bj] at e;subst e;exact .inl X
   · split at e
     · rename_i W t fz hh
       split at e<;>simp only[bj,reduceCtorEq] at e
       rename_i O
       subst e;exact .inr ⟨⟨t,fz,hh⟩,O⟩
     · simp at e
 have V:S1.lim=S.lim:=h.lim
 refine⟨g'.freeze A w', fun x G=>Cd E z k v v0 x D G,⟨?_,?_,?_,?_⟩,⟨h.size,h.os,h.tape,h.output,h.jW,?_,Gh.le_trans h.oS z.1,by rw[r];exact h.nx,by rw[r];exact h.lim,?_,h.vZ,?_,?_,h.fz⟩⟩
 · intro b c0 e
   rcases i b c0 e with q | ⟨q,_⟩
   · exact j.ro b c0 q
   · exact q
 · intro id o e
   obtain⟨a,b⟩:=h2 id o e
   obtain⟨l,U,Y,Z⟩:=j.ob id o b
   refine⟨l,U,?_,Z.mono z.1⟩
   cases q:(g'.freeze A w').ro l.cZ with
   | none=>rfl
   | some c0=>
     rcases i _ c0 q with q | ⟨_,u,o0,K,B,q2,q3⟩
     · rw[Y] at q;simp at q
     · obtain⟨a0,L⟩:=I u o0 B
       have:=j.inj id u o o0 l K b L U q2 q3.symm
       subst this
       rw[a] at a0;simp at a0
 · intro id F o o' l l' e e' p p' hb
   exact j.inj id F o o' l l' (h2 id o e).2 (h2 F o' e').2 p p' hb
 · intro id bE;rw[r] at bE;exact j.fresh id bE
 · intro id o l e e1 e2 e3
   exact h.own id o l (h2 id o e).2 e1 e2 e3
 · intro id bE
   rw[N id ?_]
   · exact h.wU id bE
   · cases q:qR c id with
     | false=>rfl
     | true=>
       obtain⟨ob,q⟩:=vB q
       have:=IF C id ob q
       omega
 · intro b c0 e hb
   rcases i b c0 e with q | ⟨_,id,o,l,B,q2,q3⟩
   · exact h.CU b c0 q hb
   · obtain⟨a,L⟩:=I id o B
     obtain⟨ob,q⟩:=vB a
     have:=IF C id ob q
     obtain⟨u,o0,K,r1,r2,r3,r4⟩:=h.own id o l L (by omega) q2 (by rw[q3];exact hb)
     exact .inr ⟨u,o0,K,r1,r2,r3,by rw[r4,q3]⟩
 · intro id bE e
   have:=h.dead id bE e
   cases q:S2.get id with
   | none=>rfl
   | some o=>rw[(h2 id o q).2] at this;simp at this
variable {l : List AV}
theorem F5 (a:mH S1 0 w7 l []=c):∀ id ob,(id,ob)∈c→S1.get id≠none∧ob=S1.get id:=by
 intro id ob e
 rw[←a] at e
 rcases s7 e with q | ⟨_,b,q2⟩
 · simp at q
 · exact⟨b,q2⟩
theorem fU.ye {f:FuncId}{args:List AV}{v v' : AV}{S S1 S2:ag}{k:Nat}(h:fU P f args S fun r b=>r=.ret v∧b=S1)(hf:B6 k v S1 (mH S1 0 w7 [v] [])=some (v', S2)) :
  fU P f args S fun r b=>r=.ret v' ∧ b=S2:=by
 intro g w xs hx hi
 refine(h g w xs hx hi).mono fun e w' ⟨r,b,g', ⟨o,i⟩,a,j,m⟩=>?_
 subst o;subst i
 obtain⟨p,q,s,t⟩:=Ext.ye (F5 rfl) hf j m
 refine⟨.ret v', S2,p,⟨rfl,rfl⟩,?_,s,t⟩
 cases e with
 | returned x=>exact q x a
 | panicked c=>exact a.elim
 | outgrown=>exact a.elim
variable {args' : List AV} {Q : gQ → ag → Prop}
theorem fU.VA {f:FuncId}(hf:B6 k (.bO args) S (mH S 0 w7 args [])=some (.bO args', S2))(h:fU P f args' S2 Q):fU P f args S Q:=by
 intro g w xs hx hi
 obtain⟨j,m,o,p⟩:=Ext.ye (F5 rfl) hf hi (Ext.refl _ _ _)
 have q:=m (.tuple xs) (.bO hx.1 hx.2)
 cases q with | bO h1 h2=>?_
 refine(h j w xs ⟨h1,h2⟩ o).mono fun e w' ⟨r,s,g', t,a,b,i⟩=>?_
 exact⟨r,s,g', t,a,b,p.trans i⟩
def T8 (k:Nat)(x:List AV→ag→Option (AV×ag))(args:List AV)(S:ag):Option (AV×ag):=
 match B6 k (.bO args) S (mH S 0 w7 args []) with
 | some (.bO a,S2)=>x a S2
 | _=>none
variable {x : List AV → ag → Option (AV × ag)}
theorem MG (hx:∀ args S v b,x args S=some (v,b)→fU P f args S fun r a=>r=.ret v∧a=b)(args:List AV)(S:ag)(v:AV)(b:ag)(h:T8 k x args S=some (v,b)) :
  fU P f args S fun r a=>r=.ret v∧a=b:=by
 grind[T8,fU.VA]
mutual
def wi : AV→Bool
 | .sc _=>true
 | .an=>true
 | .agg l=>LA l
 | .bO l=>LA l
 | .eu _ v=>wi v
 | _=>false
def LA : List AV→Bool
 | []=>true
 | v::r=>match wi v with
   | true=>LA r
   | false=>false
end
theorem IG (h:LA l=true):∀ {k:Nat} {a:AV},l[k]? = some a→wi a=true:=by
 induction l<;>grind[LA]
theorem VR.flat {o:Gh}{x:Value}(h:VR g v x)(i:wi v=true):VR o v x:=by
 induction h with
 | sc h=>exact .sc h
 | agg j _ b=>exact .agg j fun k a x e m=>b k a x e m (IG (by simpa [wi] using i) e)
 | bO j _ b=>exact .bO j fun k a x e m=>b k a x e m (IG (by simpa [wi] using i) e)
 | eu _ b=>exact .eu (b (by simpa [wi] using i))
 | an=>exact .an
 | _=>simp[wi] at i
theorem fU.read {f:FuncId}(hf:vh S k (.bO args)=some (.bO args'))(ha:cF args' = true)(R:wi v=true)(h:fU P f args' ag.empty fun r _=>r=.ret v) :
   fU P f args S fun r M=>r=.ret v∧M=S:=by
 intro g w xs hx hi
 have B:=Gh.jT hi
 obtain⟨F,C⟩:∃ k:Gh,k=g.freeze S w:=⟨_,rfl⟩
 rw[←C] at B
 have H:=Cd hi B k _ _ (.tuple xs) hf (.bO hx.1 hx.2)
 cases H with | bO h1 h2=>?_
 have z:∀ b c,F.ro b=some c→∃ t fz,w.heap[b]? = some (.cells c t fz):=by
   intro b c e
   subst C
   simp only[Gh.freeze] at e
   split at e
   · rename_i U V;simp only[bj] at e;subst e;exact hi.ro _ _ V
   · split at e
     · rename_i U t fz hh
       split at e<;>simp only[bj,reduceCtorEq] at e
       subst e;exact⟨t,fz,hh⟩
     · simp at e
 have I:Inv ag.empty F.bare w:=⟨z,fun id o e=>by rw[ag.fM] at e;simp at e,fun id D o o' l l' e=>by rw[ag.fM] at e;simp at e,fun _ _=>rfl⟩
 have J:hJ F.bare args' xs:=⟨h1,fun k a x e G=>(h2 k a x e G).bare (fN ha e)⟩
 refine(h F.bare w xs J I).mono fun e w' ⟨r,M,g', W,m,K,j⟩=>?_
 subst W
 obtain⟨A,s⟩:∃ k:Gh,k={ ro:=fun b=>if b<w.heap.size then g.ro b else g'.ro b,ph:=g.ph }:=⟨_,rfl⟩
 have DA:∀ b,b<w.heap.size→A.ro b=g.ro b:=fun b hb=>by subst s;simp[hb]
 have L:∀ b,¬ b<w.heap.size→A.ro b=g'.ro b:=fun b hb=>by subst s;simp[hb]
 have i:∀ b,b<w.heap.size→w'.heap[b]? = w.heap[b]? := fun b hb=>j.jW b hb fun id o l e=>by rw[ag.fM] at e;simp at e
 have E:∀ b c,g.ro b=some c→b<w.heap.size:=by
   intro b c e
   obtain⟨t,fz,q⟩:=hi.ro b c e
   exact(BG.1 q).1
 have u:Gh.le g A:=⟨fun b c e=>by rw[DA b (E b c e)];exact e,fun _ _ e=>by subst s;exact e⟩
 have y:A.ph=g.ph:=by subst s;rfl
 refine⟨.ret v,S,A,⟨rfl,rfl⟩,?_,⟨?_,?_,?_,?_⟩,⟨j.size,j.os,j.tape,j.output,fun b hb _=>i b hb,?_,u,bG _,rfl,fun _ _=>rfl,?_,?_,?_,j.fz⟩⟩
 · cases e with
   | returned x=>exact VR.flat m R
   | panicked c=>exact m.elim
   | outgrown=>exact m.elim
 · intro b c e
   by_cases hb:b<w.heap.size
   · rw[DA b hb] at e
     rw[i b hb];exact hi.ro b c e
   · rw[L b hb] at e;exact K.ro b c e
 · intro id o e
   obtain⟨l,a,b,c⟩:=hi.ob id o e
   refine⟨l,u.ph _ _ a,?_,?_⟩
   · rw[DA _ c.lt];exact b
   · rw[i _ c.lt];exact c.mono u
 · intro id D o o' l l' e G p N hb
   rw[y] at p N
   exact hi.inj id D o o' l l' e G p N hb
 · intro id bE;rw[y];exact hi.fresh id bE
 · intro id o l e X O Y
   rw[y] at O
   exact⟨id,o,l,e,X,O,rfl⟩
 all_goals grind
def JL (k:Nat)(x:List AV→ag→Option (AV×ag))(args:List AV)(S:ag):Option (AV×ag):=
 match vh S k (.bO args) with
 | some (.bO a)=>match cF a with
   | true=>match x a ag.empty with
     | some (v,_)=>match wi v with
       | true=>some (v,S)
       | false=>none
     | none=>none
   | false=>none
 | _=>none
theorem HA (hx:∀ args S v e,x args S=some (v,e)→fU P f args S fun r b=>r=.ret v∧b=e)(args:List AV)(S:ag)(v:AV)(e:ag)(h:JL k x args S=some (v,e)) :
  fU P f args S fun r b=>r=.ret v∧b=e:=by
 unfold JL at h
 split at h<;>try (simp at h;done)
 rename_i a hf
 split at h<;>try (simp at h;done)
 rename_i j
 split at h<;>try (simp at h;done)
 rename_i u S1 hu
 split at h<;>simp only[bj,nj,reduceCtorEq] at h
 rename_i i
 obtain⟨rfl,rfl⟩:=h
 exact fU.read hf j i ((hx _ _ _ _ hu).mono fun r b q=>q.1)
theorem Kd (i:dh T P)(e:P.follows .mixedOrders=true)(args:List AV)(S:ag)(v:AV)(b:ag)(h:Ou T P d k f args S=some (v,b)):fU P f args S fun r a=>r=.ret v∧a=b:=by
 grind[Ou,fU.ye,St.sound]
theorem fU.quiet {f:FuncId}{lim m:Nat}{t:PT}(U:lim≤n)(h:fU P f args ⟨n,n,t⟩ Q)(M:∀ r C,Q r C→r=.ret v∧C.nx=m∧mH C n w7 [v] []=c) :
   fU P f args ⟨n,lim,t⟩ fun r C=>r=.ret v∧C=⟨m,lim,tU t c⟩:=by
 intro g w xs hx hi
 have D:Inv ⟨n,n,t⟩ g w:=Inv.less (A:=⟨n,n,t⟩) (B:=⟨n,lim,t⟩) rfl (fun id o e=>e) hi
 refine(h g w xs hx D).mono fun e w' ⟨r,S1,g', N,F,J,a⟩=>?_
 obtain⟨O,q2,q3⟩:=M r S1 N
 subst O
 have E:∀ id ob,(id,ob)∈c→n≤id∧S1.get id≠none∧ob=S1.get id:=by
   intro id ob e
   rw[←q3] at e
   rcases s7 e with q | q
   · simp at q
   · exact q
 have s:∀ id ob,(id,ob)∈c→Ok id:=by
   grind
 have u:∀ id o,(⟨n,n,t⟩:ag).get id=some o→n≤id→False:=fun id o e V=>by have:=D.lO e;grind
 have y:∀ b,b<w.heap.size→w'.heap[b]? = w.heap[b]? := fun b hb=>a.jW b hb fun id o l e G=>(u id o e G).elim
 obtain⟨S2,i⟩:∃ x:ag,x=⟨m,lim,tU t c⟩:=⟨_,rfl⟩
 have j:∀ id,id<n→S2.get id=(⟨n,lim,t⟩:ag).get id:=by
   intro id bE
   by_cases hb:Ok id
   · rw[ag.cE hb,ag.cE hb,i]
     refine uO hb s ?_
     cases q:qR c id with
     | false=>rfl
     | true=>obtain⟨ob,q⟩:=vB q;have:=(E id ob q).1;omega
   · rw[ag.qh hb,ag.qh hb]
 have z:∀ id,(⟨n,lim,t⟩:ag).get id=(⟨n,n,t⟩:ag).get id:=fun id=>rfl
 have p:∀ id o,S2.get id=some o→S1.get id=some o:=by
   intro id o e
   by_cases bE:id<n
   · rw[j id bE,z] at e
     rw[a.wU id bE];exact e
   · have hb:=ag.iw e
     rw[ag.cE hb,i] at e
     have e:PT.get dep (tU t c) id=some o:=e
     cases q:qR c id with
     | true=>
       obtain⟨ob,H,I⟩:=Ex (m:=t) hb s q
       rw[I] at e
       rw[←(E id ob H).2.2];exact e
     | false=>
       rw[uO hb s q] at e
       have:(⟨n,n,t⟩:ag).get id=some o:=by rw[ag.cE hb];exact e
       exact(u id o this (by omega)).elim
 rw[←i]
 refine⟨.ret v,S2,g', ⟨rfl,rfl⟩,F,J.less (by rw[i];exact q2.symm) p,⟨a.size,a.os,a.tape,a.output,fun b hb _=>y b hb,?_,a.oS,by rw[i,←q2];exact a.nx,by rw[i],?_,a.vZ,?_,?_,a.fz⟩⟩
 · intro id o l e G L R
   by_cases bE:id<n
   · rw[j id bE] at e
     exact⟨id,o,l,e,G,by rw[←a.vZ id bE];exact L,rfl⟩
   · obtain⟨K,o0,W,H,I,_⟩:=a.own id o l (p id o e) (by show n≤id;omega) L R
     exact(u K o0 H I).elim
 all_goals grind[Ext.CU]
end
def BK.W1 (P:Program)(f:Nat)(e:BK):Prop:=P.funcs[f]? = some e.fn∧e.fn.body=some e.body∧nm P f=true∧e.ext=none
def GZ (P:Program):Nat→Nat→Nat→FT→Prop
 | _,_,_,.nil=>True
 | 0,b,_,.node o _ _=>match o with
   | some e=>BK.W1 P b e
   | none=>True
 | d+1,b,s,.node _ l r=>GZ P d b (2*s) l∧GZ P d (b+s) (2*s) r
variable {P : Program}
theorem Yp : ∀ {d b s:Nat} {T:FT} {i:Nat} {e:BK},GZ P d b s T→i<2 ^ d→FT.get d T i=some e→BK.W1 P (b+s*i) e:=by
 intro d
 induction d with
 | zero=>
   intro b s T i e h hi a
   cases T<;>grind[FT.get,GZ]
 | succ d j=>
   intro b s T i e h hi a
   cases T with
   | nil=>simp[FT.get] at a
   | node o l r=>
     obtain⟨h1,h2⟩:=h
     have m:2 ^ (d+1)=2*2 ^ d:=by grind
     simp only[FT.get] at a
     split at a
     · rename_i hb
       have hb:=ET hb
       have:=j h1 (by omega) a
       rw[show b+2*s*(i/2)=b+s*i from by rw[Nat.mul_comm 2 s,Nat.mul_assoc,show 2*(i/2)=i from by omega]] at this
       exact this
     · rename_i hb
       have hb:i%2=1:=by
        have:=Nat.mod_two_eq_zero_or_one i
        rcases this with q | q
        · rw[q] at hb;simp at hb
        · exact q
       have:=j h2 (by omega) a
       rw [show b+s+2*s*(i/2)=b+s*i from by rw[Nat.mul_comm 2 s,Nat.mul_assoc,Nat.add_assoc,show s+s*(2*(i/2))=s*i from by
        rw[show s+s*(2*(i/2))=s*(2*(i/2)+1) from by rw[Nat.mul_add,Nat.mul_one,Nat.add_comm],show 2*(i/2)+1=i from by omega]]] at this
       exact this
variable {T : FT}
theorem dh.base (h:GZ P 10 0 1 T):dh T P:=by
 intro f e i
 unfold FT.look at i
 split at i
 · rename_i hb
   have hb:=gw hb
   obtain⟨a,b,c,d⟩:=Yp h (show f<2 ^ 10 from hb) i
   grind
 · simp at i
variable {x : List AV → ag → Option (AV × ag)}
theorem VB : ∀ {d:Nat} {T:FT} {i j:Nat} {e:BK},i<2 ^ d→j<2 ^ d→FT.get d (FT.Lf d T i x) j=some e→FT.get d T j=some e∨(j=i∧∃ a,FT.get d T j=some a∧e={ a with ext:=some x }):=by
 intro d
 induction d with
 | zero=>
   intro T i j e hi b h
   cases T with
   | nil=>simp[FT.Lf,FT.get] at h
   | node o l r=>
     have hi:i=0:=by simpa using hi
     have b:j=0:=by simpa using b
     cases o with
     | none=>simp[FT.Lf,FT.get] at h
     | some a=>
       simp only[FT.Lf,FT.get,bj] at h
       exact .inr ⟨by omega,a,rfl,h.symm⟩
 | succ d s=>
   intro T i j e hi b h
   have m:2 ^ (d+1)=2*2 ^ d:=by grind
   have p:∀ {n:Nat},Nat.beq (n%2) 0=false→n%2=1:=by
     intro n hb
     rcases Nat.mod_two_eq_zero_or_one n with q | q
     · rw[q] at hb;simp at hb
     · exact q
   cases T<;>grind[FT.Lf,FT.get,Nat.beq,ET]
def FT.Ap (T:FT)(f:Nat)(x:List AV→ag→Option (AV×ag)):FT:=FT.Lf 10 T f x
variable {f : Nat}
theorem dh.ext (h:dh T P)(hf:f<1024)(hx:∀ args S v o,x args S=some (v,o)→fU P f args S fun r j=>r=.ret v∧j=o):dh (T.Ap f x) P:=by
 intro g e i
 unfold FT.look at i
 split at i
 · rename_i hb
   have m:=gw hb
   rcases VB (show f<2 ^ 10 from hf) (show g<2 ^ 10 from m) i with q | ⟨rfl,p,s,q2⟩
   · exact h g e (by grind[FT.look])
   · obtain⟨a,b,c,_⟩:=h g p (by grind[FT.look])
     grind
 · simp at i
end
end Go.Eng

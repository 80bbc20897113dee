/- Frames, contracts of functions, and regions without an order; no conditions. -/
import Derived.Test.YtnangdjonghnaaaGreatVEngB
import Derived.Orders
namespace Go.Eng
noncomputable section
mutual
def aq : AV→Bool
 | .sc _=>true
 | .agg cs=>br cs
 | .eG=>true
 | .an=>true
 | .lit es=>br es
 | .eV cs=>br cs
 | .ptr _ _ _=>false
 | .aj _ _ _=>false
 | .dJ _=>false
 | .fn _ a b=>match br a with
   | true=>br b
   | false=>false
 | .fq _ v=>aq v
 | .bm c=>br c
 | .pq _=>false
 | .clip v=>aq v
 | .top=>true
def br : List AV→Bool
 | []=>true
 | v::r=>match aq v with
   | true=>br r
   | false=>false
end
theorem eA {l:List AV}(h:br l=true):∀ {k:Nat} {a:AV},l[k]? = some a→aq a=true:=by
 induction l with
 | nil=>intro k a e;simp at e
 | cons v r b=>
   intro k a e
   simp only[br] at h
   split at h<;>try (simp at h;done)
   rename_i c
   cases k with
   | zero=>simp at e;subst e;exact c
   | succ k=>exact b h (by simpa using e)
theorem kb {e:AV}(h:aq e=true){j:Nat}{a:AV}(b:e.cells[j]? = some a):aq a=true:=by
 cases e with
 | agg cs=>exact eA (l:=cs) (by simpa [aq] using h) b
 | _=>
   cases j with
   | zero=>simp[AV.cells] at b;subst b;exact h
   | succ j=>simp[AV.cells] at b
def Gh.bare (g:Gh):Gh:={ ro:=g.ro,ph:=fun _=>none }
theorem VR.bare {g:Gh}{v:AV}{x:Value}(h:VR g v x)(b:aq v=true):VR g.bare v x:=by
 induction h with
 | sc h=>exact .sc h
 | agg d _ c=>exact .agg d fun k a x e f=>c k a x e f (eA (by simpa [aq] using b) e)
 | eG=>exact .eG
 | an=>exact .an
 | lit n s m l _ c=>exact .lit n s m l fun i j e a x p q r=>c i j e a x p q r (kb (eA (by simpa [aq] using b) p) q)
 | gG=>exact .gG
 | eV n m _ c=>exact .eV n m fun j a x p q=>c j a x p q (eA (by simpa [aq] using b) p)
 | ptr d=>simp[aq] at b
 | aj d w m=>simp[aq] at b
 | ga=>simp[aq] at b
 | dJ d=>simp[aq] at b
 | fn hx t _ _ c o=>
   simp only[aq] at b
   split at b<;>try (simp at b;done)
   rename_i u
   exact .fn hx t (fun k a x e f=>c k a x e f (eA u e)) (fun k a x e f=>o k a x e f (eA b e))
 | fq _ c=>exact .fq (c (by simpa [aq] using b))
 | bm d _ c=>exact .bm d fun k a x e f=>c k a x e f (eA (by simpa [aq] using b) e)
 | pq d=>simp[aq] at b
 | clip _ c=>exact .clip (c (by simpa [aq] using b))
 | top=>exact .top
theorem dc.frame {P:Program}{f:FuncId}{args:List AV}{v:AV}(G:br args=true)(H:aq v=true)(h:dc P f args af.empty fun r _=>r=.ret v)(S:af) :
   dc P f args S fun r F=>r=.ret v∧F=S:=by
 intro g w xs hx hi
 have C:Inv af.empty g.bare w:=⟨hi.ro,fun id o e=>by rw[af.di] at e;simp at e,fun id t o o' l l' e=>by rw[af.di] at e;simp at e,fun _ _=>rfl⟩
 have D:fG g.bare args xs:=⟨hx.1,fun k a x e z=>(hx.2 k a x e z).bare (eA G e)⟩
 refine(h g.bare w xs D C).mono fun e w' ⟨r,F,g', A,j,E,i⟩=>?_
 subst A
 obtain⟨B,d⟩:∃ k:Gh,k={ ro:=g'.ro,ph:=g.ph }:=⟨_,rfl⟩
 have u:∀ b c,g'.ro b=some c→b<w.heap.size→g.ro b=some c:=by
   intro b c e n
   rcases i.wC b c e n with q | ⟨L,o0,M,q,_⟩
   · exact q
   · rw[af.di] at q;simp at q
 have m:∀ b,b<w.heap.size→w'.heap[b]? = w.heap[b]? := fun b n=>i.gQ b n fun id o l e=>by rw[af.di] at e;simp at e
 have s:Gh.le g B:=by subst d;exact⟨fun b c e=>i.ng.ro b c e,fun _ _ e=>e⟩
 have y:Gh.le g'.bare B:=by subst d;exact⟨fun _ _ e=>e,fun _ _ e=>by simp[Gh.bare] at e⟩
 refine⟨.ret v,S,B,⟨rfl,rfl⟩,?_,⟨?_,?_,?_,?_⟩,⟨i.size,i.os,i.tape,i.output,fun b n _=>m b n,?_,s,Nat.le_refl _,rfl,fun _ _=>rfl,?_,?_,?_,i.fz⟩⟩
 · cases e with
   | returned x=>exact(VR.bare j H).mono y
   | panicked c=>exact j.elim
   | outgrown=>exact j.elim
 · intro b c e;subst d;exact E.ro b c e
 · intro id o e
   obtain⟨l,a,b,c⟩:=hi.ob id o e
   refine⟨l,s.ph _ _ a,?_,?_⟩
   · subst d
     cases A:g'.ro l.cd with
     | none=>rfl
     | some cc=>rw[u _ _ A c.lt] at b;simp at b
   · rw[m _ c.lt];exact c.mono s
 · intro id t o o' l l' e z p I n
   subst d;exact hi.inj id t o o' l l' e z p I n
 · intro id aQ;subst d;exact hi.fresh id aQ
 · intro id o l e J K N
   subst d;exact⟨id,o,l,e,J,K,rfl⟩
 · intro id _;subst d;rfl
 · intro b c e n;subst d;exact .inl (u b c e n)
 · exact fun _ _ e=>e
end
end Go.Eng
namespace Go.Eng
noncomputable section
mutual
def tk (S:af):Nat→AV→Option AV
 | 0,_=>none
 | n+1,.aj id off len=>match S.get id with
   | some (.arr _ es)=>match Nat.ble (off+len) es.length with
     | true=>match Ae S n ((es.drop off).take len) with
       | some l=>some (.lit l)
       | none=>none
     | false=>none
   | _=>none
 | n+1,.agg cs=>match Ae S n cs with
   | some l=>some (.agg l)
   | none=>none
 | n+1,.bm cs=>match Ae S n cs with
   | some l=>some (.bm l)
   | none=>none
 | n+1,.lit cs=>match Ae S n cs with
   | some l=>some (.lit l)
   | none=>none
 | n+1,.fq t v=>match tk S n v with
   | some x=>some (.fq t x)
   | none=>none
 | n+1,.clip v=>match tk S n v with
   | some x=>some (.clip x)
   | none=>none
 | _+1,.sc v=>some (.sc v)
 | _+1,.eG=>some .eG
 | _+1,.an=>some .an
 | _+1,_=>none
def Ae (S:af):Nat→List AV→Option (List AV)
 | 0,_=>none
 | _+1,[]=>some []
 | n+1,v::r=>match tk S n v with
   | some x=>match Ae S n r with
     | some l=>some (x::l)
     | none=>none
   | none=>none
end
variable {S : af}
theorem sW : ∀ {n:Nat} {l l' : List AV},Ae S n l=some l' → l'.length=l.length∧∀(k:Nat) (a:AV),l[k]? = some a→∃(m:Nat) (b:AV),m<n∧tk S m a=some b∧l'[k]? = some b:=by
 intro n
 induction n with
 | zero=>intro l l' h;simp[Ae] at h
 | succ n d=>
   intro l l' h
   cases l with
   | nil=>simp only[Ae,ar] at h;subst h;exact⟨rfl,fun k a e=>by simp at e⟩
   | cons v r=>
     simp only[Ae] at h
     split at h<;>try (simp at h;done)
     rename_i x hx
     split at h<;>simp only[ar,reduceCtorEq] at h
     rename_i l2 c
     subst h
     obtain⟨h1,h2⟩:=d c
     refine⟨by simp[h1],fun k a e=>?_⟩
     cases k with
     | zero=>simp at e;subst e;exact⟨n,x,by omega,hx,rfl⟩
     | succ k=>
       obtain⟨m,b,p,q,f⟩:=h2 k a (by simpa using e)
       exact⟨m,b,by omega,q,by simpa using f⟩
def Gh.frozen (S:af)(g:Gh)(w:World)(n:Gh):Prop:=
 Gh.le g n∧n.ph=g.ph∧(∀ id o l c t fz,S.get id=some o→g.ph id=some l→w.heap[l.cd]? = some (.cells c t fz)→n.ro l.cd=some c)
variable {n : Nat}
theorem CX {v b:AV}(h:tk S n v=some b):(∃ cs a m,n=m+1∧v=.agg cs∧b=.agg a∧Ae S m cs=some a)∨(v.cells=[v]∧b.cells=[b]):=by
 cases n with
 | zero=>simp[tk] at h
 | succ n=>
   cases v with
   | agg cs=>
     simp only[tk] at h
     split at h<;>simp only[ar,reduceCtorEq] at h
     rename_i l c
     exact .inl ⟨cs,l,n,rfl,rfl,h.symm,c⟩
   | aj id off len=>
     simp only[tk] at h
     split at h<;>try (simp at h;done)
     split at h<;>try (simp at h;done)
     split at h<;>simp only[ar,reduceCtorEq] at h
     subst h;exact .inr ⟨rfl,rfl⟩
   | bm cs=>simp only[tk] at h;split at h<;>simp only[ar,reduceCtorEq] at h;subst h;exact .inr ⟨rfl,rfl⟩
   | lit cs=>simp only[tk] at h;split at h<;>simp only[ar,reduceCtorEq] at h;subst h;exact .inr ⟨rfl,rfl⟩
   | clip v=>simp only[tk] at h;split at h<;>simp only[ar,reduceCtorEq] at h;subst h;exact .inr ⟨rfl,rfl⟩
   | fq t v=>simp only[tk] at h;split at h<;>simp only[ar,reduceCtorEq] at h;subst h;exact .inr ⟨rfl,rfl⟩
   | sc v=>simp only[tk,ar] at h;subst h;exact .inr ⟨rfl,rfl⟩
   | eG=>simp only[tk,ar] at h;subst h;exact .inr ⟨rfl,rfl⟩
   | an=>simp only[tk,ar] at h;subst h;exact .inr ⟨rfl,rfl⟩
   | _=>simp[tk] at h
theorem qW {l l' : List AV}(h:Ae S n l=some l'){k:Nat}{b:AV}(e:l'[k]? = some b):∃(m:Nat) (a:AV),m<n∧tk S m a=some b∧l[k]? = some a:=by
 obtain⟨h1,h2⟩:=sW h
 have c:k<l.length:=by have:=(List.getElem?_eq_some_iff.1 e).1;omega
 obtain⟨m,a2,p,q,r⟩:=h2 k l[k] (oe c)
 rw[e] at r;simp only[ar] at r;subst r
 exact⟨m,_,p,q,oe c⟩
variable {g gn : Gh} {m : Nat} {e0 e : AV}
theorem FC (c:∀ m,m<n→∀(v d:AV) (x:Value),tk S m v=some d→VR g v x→VR gn d x)(i:m<n){a:AV}(f:tk S m e0=some e){j:Nat}(b:e.cells[j]? = some a){x:Value}(h:∀ a0,e0.cells[j]? = some a0→VR g a0 x):VR gn a x:=by
 rcases CX f with⟨cs,r,q,rfl,rfl,rfl,k⟩ | ⟨c1,c2⟩
 · obtain⟨l,a0,s,o,p⟩:=qW k b
   exact c l (by omega) a0 a x o (h a0 p)
 · rw[c2] at b
   cases j with
   | zero=>simp at b;subst b;exact c m i e0 _ x f (h e0 (by rw[c1];rfl))
   | succ j=>simp at b
theorem IT (a:tk S m e0=some e):e.cells.length=e0.cells.length:=by
 rcases CX a with⟨cs,c,q,rfl,rfl,rfl,b⟩ | ⟨c1,c2⟩
 · exact(sW b).1
 · rw[c1,c2];rfl
variable {w : World}
theorem xZ (hi:Inv S g w)(H:Gh.frozen S g w gn):∀(n:Nat) (v N:AV) (x:Value),tk S n v=some N→VR g v x→VR gn N x:=by
 intro n
 induction n using Nat.strongRecOn with
 | _ n G=>
   intro v N x h s
   cases n with
   | zero=>simp[tk] at h
   | succ n=>
     cases v with
     | aj id off len=>
       simp only[tk] at h
       split at h<;>try (simp at h;done)
       rename_i sz es L
       split at h<;>try (simp at h;done)
       rename_i I
       have I:=eL I
       split at h<;>simp only[ar,reduceCtorEq] at h
       rename_i l z
       subst h
       obtain⟨f,_⟩:=sW z
       have C:l.length=len:=by rw[f];simp;omega
       cases s with
       | ga=>
         have:l=[]:=List.eq_nil_of_length_eq_zero C
         subst this;exact .gG
       | aj M hc hbz=>
         rename_i cap B
         obtain⟨l1,O,a2,a3⟩:=hi.ob _ _ L
         rw[M] at O;simp only[ar] at O;subst O
         obtain⟨c,t,X,b2,P,b4,Y,Z⟩:=a3
         have T:=H.2.2 id _ _ c t (0,0) L M X
         have A:∀ i e,l[i]? = some e→∃(m:Nat) (e0:AV),m<n∧tk S m e0=some e∧es[off+i]? = some e0∧i<len:=by
          intro i e J
          obtain⟨m,e0,K,u,d⟩:=qW z J
          rw[List.getElem?_take] at d
          split at d<;>try (simp at d;done)
          rw[List.getElem?_drop] at d
          exact⟨m,e0,K,u,d,by assumption⟩
         have V:(off+len)*B.sz≤es.length*sz:=by rw[P];exact u9 _ I
         have U:(off+len)*B.sz=off*B.sz+len*B.sz:=Nat.add_mul _ _ _
         have key:VR gn (.lit l) (.slice (some ⟨B.cd,B.base+off*B.sz,none⟩) l.length cap):=by
          refine VR.lit (sz:=B.sz) T ?_ ?_ (by omega) ?_
          · intro e J
            obtain⟨i,D,E⟩:=List.mem_iff_getElem.1 J
            obtain⟨m,e0,_,u,d,_⟩:=A i e (by rw[oe D,E])
            rw[IT u,Y e0 (tl d),P]
          · rw[C];omega
          · intro i j e a y p q r
            obtain⟨m,e0,K,u,d,_⟩:=A i e p
            refine FC (n:=n+1) G (by omega) u q fun a0 F=>Z (off+i) j e0 a0 y d F ?_
            rw[←r]
            congr 1
            rw[←P,Nat.add_mul];omega
         rw[C] at key;exact key
     | agg cs=>
       simp only[tk] at h
       split at h<;>simp only[ar,reduceCtorEq] at h
       rename_i l z
       subst h
       cases s with | agg h1 h2=>?_
       refine .agg (by rw[(sW z).1];exact h1) fun k a y e Q=>?_
       obtain⟨m,a0,K,u,d⟩:=qW z e
       exact G m (by omega) a0 a y u (h2 k a0 y d Q)
     | bm cs=>
       simp only[tk] at h
       split at h<;>simp only[ar,reduceCtorEq] at h
       rename_i l z
       subst h
       cases s with | bm h1 h2=>?_
       refine .bm (by rw[(sW z).1];exact h1) fun k a y e Q=>?_
       obtain⟨m,a0,K,u,d⟩:=qW z e
       exact G m (by omega) a0 a y u (h2 k a0 y d Q)
     | lit cs=>
       simp only[tk] at h
       split at h<;>simp only[ar,reduceCtorEq] at h
       rename_i l z
       subst h
       have f:=(sW z).1
       cases s with
       | lit hr hs I W h2=>
         rename_i b o sz cap c
         have key:VR gn (.lit l) (.slice (some ⟨b,o,none⟩) l.length cap):=by
          refine VR.lit (sz:=sz) (H.1.ro _ _ hr) ?_ (by rw[f];exact I) (by omega) ?_
          · intro e J
            obtain⟨i,D,E⟩:=List.mem_iff_getElem.1 J
            obtain⟨m,e0,_,u,d⟩:=qW z (by rw[oe D,E])
            rw[IT u];exact hs e0 (tl d)
          · intro i j e a y p q r
            obtain⟨m,e0,K,u,d⟩:=qW z p
            exact FC (n:=n+1) G (by omega) u q fun a0 F=>h2 i j e0 a0 y d F r
         rw[f] at key;exact key
       | gG=>
         have:l=[]:=List.eq_nil_of_length_eq_zero f
         subst this;exact .gG
     | fq t v=>
       simp only[tk] at h
       split at h<;>simp only[ar,reduceCtorEq] at h
       rename_i y R
       subst h
       cases s with | fq s=>exact .fq (G n (by omega) v y _ R s)
     | clip v=>
       simp only[tk] at h
       split at h<;>simp only[ar,reduceCtorEq] at h
       rename_i y R
       subst h
       cases s with | clip s=>exact .clip (G n (by omega) v y _ R s)
     | sc v=>simp only[tk,ar] at h;subst h;exact s.mono H.1
     | eG=>simp only[tk,ar] at h;subst h;exact s.mono H.1
     | an=>simp only[tk,ar] at h;subst h;exact s.mono H.1
     | _=>simp[tk] at h
open Classical in
noncomputable def Gh.freeze (g:Gh)(S:af)(w:World):Gh:=
 { ro:=fun b=>match g.ro b with
    | some c=>some c
    | none=>match w.heap[b]? with
      | some (.cells c _ _)=>if(∃ id o l,S.get id=some o∧g.ph id=some l∧l.cd=b) then some c else none
      | _=>none
   ph:=g.ph }
theorem Gh.ir (hi:Inv S g w):Gh.frozen S g w (g.freeze S w):=by
 refine⟨⟨fun b c e=>by simp[Gh.freeze,e],fun _ _ e=>e⟩,rfl,fun id o l c t fz d f h=>?_⟩
 obtain⟨l', a,a2,_⟩:=hi.ob id o d
 rw[f] at a;simp only[ar] at a;subst a
 simp only[Gh.freeze,a2,h]
 rw[if_pos ⟨id,o,l,d,f,rfl⟩]
theorem dc.freeze {P:Program}{f:FuncId}{args:List AV}{u:AV}{Q:ic→af→Prop}{n:Nat}(h:dc P f args af.empty Q)(B:∀ r d,Q r d→∃ v,r=.ret v∧tk d n v=some u) :
   dc P f args af.empty fun r _=>r=.ret u:=by
 intro g w xs hx hi
 refine(h g w xs hx hi).mono fun e w' ⟨r,d,g', C,i,k,a⟩=>?_
 obtain⟨v,D,E⟩:=B r d C
 subst D
 have s:=Gh.ir k
 have p:∀ id,(⟨d.nx,d.lim,.nil⟩:af).get id=none:=by
   intro id
   by_cases h:Ok id
   · rw[af.bY h];exact PT.get_nil _ _
   · exact af.fY h
 have j:∀ b c,(g'.freeze d w').ro b=some c→g'.ro b=some c∨(∃ t fz,w'.heap[b]? = some (.cells c t fz))∧∃ id o l,d.get id=some o∧g'.ph id=some l∧l.cd=b:=by
   intro b c e
   simp only[Gh.freeze] at e
   split at e
   · rename_i c' F;simp only[ar] at e;subst e;exact .inl F
   · split at e
     · rename_i c' t fz hh
       split at e<;>simp only[ar,reduceCtorEq] at e
       rename_i y
       subst e;exact .inr ⟨⟨t,fz,hh⟩,y⟩
     · simp at e
 refine⟨.ret u,⟨d.nx,d.lim,.nil⟩,g'.freeze d w', rfl,?_,⟨?_,?_,?_,?_⟩,⟨a.size,a.os,a.tape,a.output,a.gQ,?_,Gh.le_trans a.ng s.1,a.nx,a.lim,?_,a.rM,?_,fun id _ _=>p id,a.fz⟩⟩
 · cases e with
   | returned x=>exact xZ k s n v u x E i
   | panicked c=>exact i.elim
   | outgrown=>exact i.elim
 · intro b c e
   rcases j b c e with q | ⟨q,_⟩
   · exact k.ro b c q
   · exact q
 · intro id o e;rw[p] at e;simp at e
 · intro id J o o' l l' e;rw[p] at e;simp at e
 · exact k.fresh
 · intro id o l e;rw[p] at e;simp at e
 · intro id aQ;exact absurd aQ (Nat.not_lt_zero id)
 · intro b c e z
   rcases j b c e with q | ⟨_,id,o,l,G,H,I⟩
   · exact a.wC b c q z
   · obtain⟨K,o0,L,A,_⟩:=a.own id o l G (Nat.zero_le id) H (by rw[I];exact z)
     rw[af.di] at A;simp at A
end
end Go.Eng
namespace Go.Eng
noncomputable section
variable {ρ ρ' : Operand → Option AV}
theorem sq : ∀ {l:List Operand},(∀ x,x∈l→ρ x=ρ' x)→qA ρ l=qA ρ' l:=by
 intro l
 induction l with
 | nil=>intro _;rfl
 | cons x r a=>intro h;simp only[qA,h x (by simp),a fun y b=>h y (by simp[b])]
theorem yM : ∀ {l:List (Nat×Operand)},(∀ x,x∈l.map (·.2)→ρ x=ρ' x)→um ρ l=um ρ' l:=by
 intro l
 induction l with
 | nil=>intro _;rfl
 | cons p r a=>intro h;obtain⟨i,x⟩:=p;simp only[um,h x (by simp),a fun y b=>h y (by simp only[List.map_cons,List.mem_cons];exact .inr b)]
variable {P : Program}
theorem JX {S:af}{o:Op}(h:∀ x,x∈o.operands.toList→ρ x=ρ' x):gi P ρ S o=gi P ρ' S o:=by
 cases o with
 | build t j=>
   have:=yM (l:=j.toList) fun x hx=>h x (by simpa [Op.operands] using hx)
   simp only[gi,this]
 | buildSlice t n j=>
   have:=yM (l:=j.toList) fun x hx=>h x (by simpa [Op.operands] using hx)
   simp only[gi,this]
 | makeFunc f a b=>
   have h1:=sq (l:=a.toList) fun x hx=>h x (by simp only[Op.operands,Array.toList_append,List.mem_append];exact .inl hx)
   have h2:=sq (l:=b.toList) fun x hx=>h x (by simp only[Op.operands,Array.toList_append,List.mem_append];exact .inr hx)
   simp only[gi,h1,h2]
 | makeMap t r=>cases r<;>rfl
 | slice t x lo hi m=>
   cases m with
   | some m=>
     have h0:=h x (by simp[Op.operands])
     have h3:=h m (by simp[Op.operands])
     cases lo with
     | some a=>
       have h1:=h a (by simp[Op.operands])
       cases hi with
       | none=>rfl
       | some b=>have h2:=h b (by simp[Op.operands]);simp only[gi,h0,h1,h2,h3]
     | none=>
       cases hi with
       | none=>rfl
       | some b=>have h2:=h b (by simp[Op.operands]);simp only[gi,h0,h2,h3]
   | none=>
     have h0:=h x (by simp[Op.operands])
     cases lo with
     | none=>
       cases hi with
       | none=>simp only[gi,h0]
       | some b=>have h2:=h b (by simp[Op.operands]);simp only[gi,h0,h2]
     | some a=>
       have h1:=h a (by simp[Op.operands])
       cases hi with
       | none=>simp only[gi,h0,h1]
       | some b=>have h2:=h b (by simp[Op.operands]);simp only[gi,h0,h1,h2]
 | call c=>
   have h1:=sq (l:=c.args.toList) fun x hx=>h x (by simp only[Op.operands,Call.operands,Array.toList_append,List.mem_append];exact .inr hx)
   simp only[gi,uv,h1]
   cases e:c.callee with
   | builtin b=>rfl
   | invoke r n=>have h2:=h r (by simp[Op.operands,Call.operands,e]);simp only[h2]
   | value f=>have h2:=h f (by simp[Op.operands,Call.operands,e]);simp only[h2]
 | defer c=>
   have h1:=sq (l:=c.args.toList) fun x hx=>h x (by simp only[Op.operands,Call.operands,Array.toList_append,List.mem_append];exact .inr hx)
   simp only[gi,h1]
   cases e:c.callee with
   | builtin b=>rfl
   | invoke r n=>rfl
   | value f=>have h2:=h f (by simp[Op.operands,Call.operands,e]);simp only[h2]
 | alloc t=>rfl
 | pick c a b=>simp only[gi,h c (by simp[Op.operands]),h a (by simp[Op.operands]),h b (by simp[Op.operands])]
 | mapUpdate t m k x=>simp only[gi,h m (by simp[Op.operands]),h k (by simp[Op.operands]),h x (by simp[Op.operands])]
 | insert t m k x=>simp only[gi,h m (by simp[Op.operands]),h k (by simp[Op.operands]),h x (by simp[Op.operands])]
 | store t a x=>simp only[gi,h a (by simp[Op.operands]),h x (by simp[Op.operands])]
 | binOp o t a x u=>simp only[gi,h a (by simp[Op.operands]),h x (by simp[Op.operands])]
 | makeSlice t a x=>simp only[gi,h a (by simp[Op.operands]),h x (by simp[Op.operands])]
 | indexAddr t a x=>simp only[gi,h a (by simp[Op.operands]),h x (by simp[Op.operands])]
 | index t a x=>simp only[gi,h a (by simp[Op.operands]),h x (by simp[Op.operands])]
 | lookup t a x c=>simp only[gi,h a (by simp[Op.operands]),h x (by simp[Op.operands])]
 | move x=>simp only[gi,h x (by simp[Op.operands])]
 | assign x=>simp only[gi,h x (by simp[Op.operands])]
 | box t x=>simp only[gi,h x (by simp[Op.operands])]
 | load t x=>simp only[gi,h x (by simp[Op.operands])]
 | nilCheck x=>simp only[gi,h x (by simp[Op.operands])]
 | unOp o t x=>simp only[gi,h x (by simp[Op.operands])]
 | convert s d x=>simp only[gi,h x (by simp[Op.operands])]
 | makeInterface t x=>simp only[gi,h x (by simp[Op.operands])]
 | fieldAddr t x f=>simp only[gi,h x (by simp[Op.operands])]
 | field t x f=>simp only[gi,h x (by simp[Op.operands])]
 | range t x=>simp only[gi,h x (by simp[Op.operands])]
 | next x s=>simp only[gi,h x (by simp[Op.operands])]
 | entry x=>simp only[gi,h x (by simp[Op.operands])]
 | typeAssert x a b c=>simp only[gi,h x (by simp[Op.operands])]
 | extract x i=>simp only[gi,h x (by simp[Op.operands])]
 | panic x=>simp only[gi,h x (by simp[Op.operands])]
 | _=>rfl
def Qk (g:Gh)(all:Array Oper)(o:Oper)(get:Nat→Option AV)(fr:Frame):Prop:=∀ t,t∈o.looksAt all→∀ u,get t=some u→∃ x,fr.tmps[t]? = some x∧VR g u x
def looked (all:Array Oper)(o:Oper)(F:ad):Operand→Option AV
 | .tmp t=>if t∈o.looksAt all then F.get t else none
 | x=>F.eval x
variable {g : Gh} {all : Array Oper} {o : Oper} {F : ad} {fr : Frame}
theorem w6 (h:Qk g all o F.get fr):EL g (looked all o F) fr.eval:=by
 intro x v e
 cases x with
 | tmp t=>
   simp only[looked] at e
   split at e
   · rename_i b
     obtain⟨y,d,i⟩:=h t b v e
     have:fr.eval (.tmp t)=y:=by simp[Frame.eval,Array.getD_eq_getD_getElem?, d]
     rw[this];exact i
   · simp at e
 | const c=>simp only[looked,ad.eval,ar] at e;subst e;exact s5 g c
 | global _=>simp[looked,ad.eval] at e
 | func f=>simp only[looked,ad.eval,ar] at e;subst e;exact .fn rfl rfl (fun k a x e=>by simp at e) (fun k a x e=>by simp at e)
variable {E : af}
theorem tC : gi P (looked all o F) E o.op=gi P F.eval E o.op:=by
 refine JX fun x hx=>?_
 cases x with
 | tmp t=>
   have:t∈o.looksAt all:=by
    unfold Oper.looksAt
    rw[List.mem_append]
    exact .inl (List.mem_filterMap.2 ⟨.tmp t,hx,rfl⟩)
   simp only[looked,this,if_true,ad.eval]
 | _=>rfl
theorem ml (h:Qk g all o F.get fr){b:Bool}(a:rP F all o=some b):Region.wanted o (yielded all fr.tmps)=b:=by
 unfold rP at a
 split at a
 · rename_i e;simp only[ar] at a;subst a;simp[Region.wanted,e]
 · rename_i j n e
   split at a<;>try (simp at a;done)
   rename_i p i
   split at a<;>try (simp at a;done)
   rename_i d k
   have f:d∈o.looksAt all:=by
     unfold Oper.looksAt
     rw[List.mem_append]
     exact .inr (by simp[e,i,k])
   split at a<;>simp only[ar,reduceCtorEq] at a
   · rename_i c l
     subst a
     obtain⟨x,hx,m⟩:=h d f _ l
     cases m
     simp[Region.wanted,e,yielded,i,k,hx]
   · rename_i l
     subst a
     obtain⟨x,hx,m⟩:=h d f _ l
     cases m
     simp[Region.wanted,e,yielded,i,k,hx]
theorem nh.AA (b:rP F all o=some false):nh P all o F.get E (.bm []) E:=by
 intro g w fr cs i rest m c d f h hi
 exact⟨w,g,undef,.one (vm c d f (ml h b)),.bm rfl (fun k a x e=>by simp at e),hi,Ext.refl _ _ _⟩
variable {E' : af} {v : AV}
theorem nh.val (d:rP F all o=some true)(a:bT o.op=false)(b:gi P F.eval E o.op=some (.val v E')):nh P all o F.get E v E' := by
 intro g w fr cs i rest m e f h c hi
 rw[←tC (all:=all)] at b
 obtain⟨x,w', g', j,k,l,n⟩:=jR hi (w6 c) b
 exact⟨w', g', x,.one (w4 (gp e f h (ml c d) (.inr a)) j),k,l,n⟩
theorem nh.skip (f:rP F all o=some true)(b:bT o.op=false)(c:gi P F.eval E o.op=some (.skip E')):nh P all o F.get E (.bm []) E' := by
 intro g w fr cs i rest m h j l d hi
 rw[←tC (all:=all)] at c
 obtain⟨w', g', n,p,q⟩:=jR hi (w6 d) c
 exact⟨w', g', undef,.one (yJ (gp h j l (ml d f) (.inr b)) n),.bm rfl (fun k a x e=>by simp at e),p,q⟩
variable {args : List AV}
theorem nh.call {f:FuncId}(t:rP F all o=some true)(j:bT o.op=false)(n:gi P F.eval E o.op=some (.call f args))(u:dc P f args E fun r p=>r=.ret v∧p=E'):nh P all o F.get E v E' := by
 intro g w fr cs i rest m y q z s hi
 rw[←tC (all:=all)] at n
 obtain⟨xs,A,B⟩:=jR hi (w6 s) n
 have b:=AQ (P:=P) (cs:=cs) (gp y q z (ml s t) (.inr j)) q A
 obtain⟨e,w', D,⟨r,p,g', ⟨C,k⟩,a,l,hx⟩,d,_,h⟩:=u g w xs B hi (fr::cs)
 subst C;subst k
 cases e with
 | returned x=>exact⟨w', g', x,Steps.head b (Steps.trans d (.one (step_leave_returned h))),a,l,hx⟩
 | panicked c=>exact a.elim
 | outgrown=>exact a.elim
theorem nh.mono {get a:Nat→Option AV}(b:∀ t u,get t=some u→a t=some u)(h:nh P all o get E v E'):nh P all o a E v E' :=
 fun g w fr cs i rest m c d f j hi=>h g w fr cs i rest m c d f (fun t k u e=>j t k u (b t u e)) hi
theorem nh.pq {id:Nat}{st:LoopState}{pend:Option Code}{fn n mask:Nat}{env:List (Nat×AV)}{params:List Tmp}{assign body:Code}(hg:rP F all o=some true)(hsp:bT o.op=false)(ha:gi P F.eval E o.op=some (.pq id args))(hlp:E.get id=some (.lp st pend fn n mask env params assign body))(J:args.length=params.length)(h:Reach P (sB id fn n mask env params assign body args) E fun F' V=>EY id F' V fun r S'' => r=.ret v∧S'' = E'):nh P all o F.get E v E' := by
 intro g w fr cs i rest m hrun e1 ho Y hi
 rw[←tC (all:=all)] at ha
 obtain⟨l,xs,W,r1,r2⟩:=jR hi (w6 Y) ha
 obtain⟨l', a1,a2,a3⟩:=hi.ob _ _ hlp
 rw[W] at a1;simp only[ar] at a1;subst a1
 obtain⟨lo,b1,b2,b3,b4,b5,b6,b7,b8,b9⟩:=a3
 have hsz:xs.size=lo.params.size:=by rw[b7,←r2.1,J];simp
 have hy:(Instr.yield l.cd xs).run P w=.ok (.round l.cd lo.fn ((lo.params.zip xs).foldl (fun tmps (x:Tmp×Value)=>tmps.setIfInBounds x.1 x.2) lo.tmps) lo.assign lo.body) w:=by
   simp[Instr.yield,Instr.getLoop,Sem.run_bind,getObj,Sem.run,b1,hsz]
 rw[hy] at r1
 obtain⟨O,K⟩:∃ x:Frame,x=Frame.round l.cd lo.fn ((lo.params.zip xs).foldl (fun tmps (x:Tmp×Value)=>tmps.setIfInBounds x.1 x.2) lo.tmps) lo.assign lo.body .normal:=⟨_,rfl⟩
 have hs:=gp (P:=P) (cs:=cs) (w:=w) hrun e1 ho (ml Y hg) (.inr hsp)
 have Z:step P (lone fr cs w)=.next (lone O (fr::cs) w):=by
   refine step_lone_go ?_
   rw[hs,K]
   simp[stepG.apply,r1]
 have S:(lo.params.zip xs).foldl (fun tmps (x:Tmp×Value)=>tmps.setIfInBounds x.1 x.2) lo.tmps=(params.zip xs.toList).foldl (fun tmps (x:Tmp×Value)=>tmps.setIfInBounds x.1 x.2) lo.tmps:=by
   rw[←Array.foldl_toList,Array.toList_zip,b7]
 have hFR:mW P g (sB id fn n mask env params assign body args) O:=by
   rw[K,S]
   refine⟨b4,?_,?_,.cons (by rw[b8];exact .code) (.cons .GS (.cons (by rw[b9];exact .code) .nil)),.nil,.run,rfl,⟨l,W,rfl⟩⟩
   · show((params.zip xs.toList).foldl _ lo.tmps).size=n
     rw[AR];exact b5
   · intro t v e
     simp only[ad.get,sB] at e
     split at e
     · rename_i hmt
       exact AS b5 J (by simpa using r2) (fun t v _ e=>b6 t v e) t v hmt e
     · simp[oh] at e
 obtain⟨F', V,g', w', f,cs', ⟨hd,I⟩,U,p2,p3,p4,p5,p6,X,p8⟩:=h g w O (fr::cs) (fr::cs) hFR (by simp[uf,sB]) hi
 have hk:F'.kind=.normal:=p3
 have hcs' : cs' = fr::cs:=by unfold uf at p2;rw[hk] at p2;exact p2
 subst hcs'
 have hfn' : f.fn=fn:=U.fn.trans p4
 have hdf:f.defers=[]:=by have:=U.defers;rw[hd] at this;exact this.DK
 have Q:f.kind=.normal:=U.kind.trans hk
 have k:f.roundOf=some l.cd:=by
   have z:=U.round
   rw[p5] at z
   have hl' := X.ng.ph _ _ W
   cases e:f.roundOf with
   | none=>rw[e] at z;exact z.elim
   | some b=>rw[e] at z;obtain⟨l2,c1,c2⟩:=z;rw[hl'] at c1;simp only[ar] at c1;subst c1;rw[c2]
 rcases I with⟨hmr,st2,pend2,fn2,n2,G,L,params2,s,H,M,T,I⟩ | ⟨lch,hmp,I⟩
 · have u:=U.runs hmr
   obtain⟨l2,c1,c2,c3⟩:=p6.ob _ _ M
   rw[X.ng.ph _ _ W] at c1;simp only[ar] at c1;subst c1
   obtain⟨A,d1,d2,d3,d4,d5,d6,d7,d8,d9⟩:=c3
   have hlt:=(Array.getElem?_eq_some_iff.1 d1).1
   have C:∀ a,(Instr.endRound l.cd a).run P w' = .ok (.bool a.isNone) { w' with heap:=w'.heap.setIfInBounds l.cd (.loop { A with state:=if a.isNone then .ready else .done,pending:=a }) }:=by
     intro a
     simp only[Instr.endRound,Instr.getLoop,Sem.run_bind,getObj,Sem.run,d1,Result.andThen_ok,Sem.run_pure]
     simp[setObj,Sem.run,d1]
   have N:∀(y:LoopState) (a:Option Code),Inv (V.set id (.lp y a fn2 n2 G L params2 s H)) g' { w' with heap:=w'.heap.setIfInBounds l.cd (.loop { A with state:=y,pending:=a }) } ∧
       Ext V g' w' (V.set id (.lp y a fn2 n2 G L params2 s H)) g' { w' with heap:=w'.heap.setIfInBounds l.cd (.loop { A with state:=y,pending:=a }) }:=by
     intro y a
     exact p6.j2 (ob' := .loop { A with state:=y,pending:=a }) M T (X.ng.ph _ _ W) (by simp)
       (by show(w'.heap.setIfInBounds l.cd _)[l.cd]? = _;simp[hlt]) (by intro j hj;show(w'.heap.setIfInBounds l.cd _)[j]? = _;rw[Array.getElem?_setIfInBounds,if_neg (Ne.symm hj)]) rfl ⟨rfl,Nat.le_refl _⟩ rfl
       ⟨_,rfl,rfl,rfl,d4,d5,d6,d7,d8,d9⟩
   have p:=U.todo
   rcases I with⟨htn,I⟩ | ⟨c,d,I⟩
   · rw[htn] at p
     generalize q:f.todo=td at p
     cases p
     obtain⟨u1,u2⟩:=N .ready none
     obtain⟨B,R⟩:=I
     simp only[ic.ret.injEq] at B
     subst B;subst R
     refine⟨_,g', .bool true,Steps.head Z (Steps.trans p8 (.one (step_lone_go ?_))),.sc rfl,u1,X.trans u2⟩
     simp[stepG,stepG.exec,u,q,k,Sem.runT_eq,C,doReturn,Q]
   · obtain⟨u1,u2⟩:=N .done (some c)
     have hgo:step P (lone f (fr::cs) w')=.next (lone (fr.finish (.bool false)) cs { w' with heap:=w'.heap.setIfInBounds l.cd (.loop { A with state:=.done,pending:=some c }) }):=by
       refine step_lone_go ?_
       generalize htodo:F'.todo=T' at p d
       unfold yo at d
       split at d
       · simp only[ar] at d;subst d
         generalize q:f.todo=td at p
         cases p with | cons y1 y2=>?_
         cases y1
         simp[stepG,stepG.exec,u,q,k,Sem.runT_eq,C,doReturn,Q]
       · split at d<;>simp only[ar,reduceCtorEq] at d
         rename_i xid bb hexq hex
         subst d
         generalize q:f.todo=td at p
         cases p with | cons y1 y2=>?_
         cases y1
         have D:=uE (id:=xid) y2
         rw[hex] at D
         simp only at D
         simp[stepG,stepG.exec,u,q,D,k,Sem.runT_eq,C,doReturn,Q]
       · simp at d
     obtain⟨B,R⟩:=I
     simp only[ic.ret.injEq] at B
     subst B;subst R
     exact⟨_,g', .bool false,Steps.head Z (Steps.trans p8 (.one hgo)),.sc rfl,u1,X.trans u2⟩
 · simp at I
end
end Go.Eng
namespace Go.Eng
noncomputable section
theorem wQ (j:Nat):∀ m,tb m j=m.testBit j:=by
 intro m
 unfold tb
 rw[Nat.testBit]
 have a:Nat.land (Nat.shiftRight m j) 1=(m >>> j) &&& 1:=rfl
 rw[a]
 have:=Nat.and_one_is_mod (m >>> j)
 rw[this,Nat.and_comm,this]
 rcases Nat.mod_two_eq_zero_or_one (m >>> j) with e | e<;>rw[e]<;>rfl
theorem abj (a b j:Nat):tb (Nat.lor a b) j=(tb a j||tb b j):=by
 rw[wQ,wQ,wQ]
 exact Nat.testBit_or a b j
theorem Xv (k j:Nat):tb (Nat.shiftLeft 1 k) j=true↔k=j:=by
 rw[wQ]
 have:Nat.shiftLeft 1 k=2 ^ k:=by show 1 <<< k=2 ^ k;rw[Nat.one_shiftLeft]
 rw[this,Nat.testBit_two_pow]
 simp
theorem IU (j:Nat):tb 0 j=false:=by rw[wQ];exact Nat.zero_testBit j
theorem Gi {eH:List (Nat×Nat)}{j:Nat}:∀ {l:List Edge},tb (al eH l) j=true↔∃ e,e∈l∧Region.binds .any e=true∧(e.on=j∨tb (BC eH e.on) j=true):=by
 intro l
 induction l with
 | nil=>simp[al,IU]
 | cons e r a=>
   simp only[al]
   cases b:Region.binds .any e with
   | true=>
     simp only[abj,Bool.or_eq_true,Xv,a,List.mem_cons,exists_eq_or_imp,b,true_and]
   | false=>
     simp only[a,List.mem_cons,exists_eq_or_imp,b,Bool.false_eq_true,false_and,false_or]
def lS : List Oper→Nat→List (Nat×Nat)→List (Nat×Nat)
 | [],_,eH=>eH
 | o::os,i,eH=>lS os (i+1) ((i,al eH o.after.toList)::eH)
theorem JY : ∀(os:List Oper) (i:Nat) (eH:List (Nat×Nat)) (k:Nat),k<i→BC (lS os i eH) k=BC eH k:=by
 intro os
 induction os with
 | nil=>intro i eH k _;rfl
 | cons o os a=>
   intro i eH k b
   simp only[lS]
   rw[a (i+1) _ k (by omega)]
   simp only[BC]
   rw[show Nat.beq i k=false from by rw[Bool.eq_false_iff];exact fun e=>by have:=jK e;omega]
theorem pj : ∀(os:List Oper) (i:Nat) (eH:List (Nat×Nat)) (k:Nat) (o:Oper),os[k]? = some o→BC (lS os i eH) (i+k)=al (lS (os.take k) i eH) o.after.toList:=by
 intro os
 induction os with
 | nil=>intro i eH k o h;simp at h
 | cons o' os a=>
   intro i eH k o h
   cases k with
   | zero=>
     simp at h;subst h
     simp only[lS,List.take_zero,Nat.add_zero]
     rw[JY _ _ _ _ (by omega)]
     simp only[BC,Nat.beq_refl]
   | succ k=>
     have:=a (i+1) ((i,al eH o'.after.toList)::eH) k o (by simpa using h)
     simp only[lS,List.take_succ_cons]
     rw[show i+(k+1)=i+1+k from by omega]
     exact this
theorem B9 : ∀(os:List Oper) (i:Nat) (eH:List (Nat×Nat)) (k:Nat),i+os.length≤k→BC (lS os i eH) k=BC eH k:=by
 intro os
 induction os with
 | nil=>intro i eH k _;rfl
 | cons o os a=>
   intro i eH k b
   simp only[List.length_cons] at b
   simp only[lS]
   rw[a (i+1) _ k (by omega)]
   simp only[BC]
   rw[show Nat.beq i k=false from by rw[Bool.eq_false_iff];exact fun e=>by have:=jK e;omega]
variable {i : Nat}
theorem HI (os:List Oper){k:Nat}(b:k<i):BC (lS (os.take i) 0 []) k=BC (lS os 0 []) k:=by
 cases a:os[k]? with
 | none=>
   have:=List.getElem?_eq_none_iff.1 a
   rw[List.take_of_length_le (by omega)]
 | some o=>
   have h1:=pj os 0 [] k o a
   have h2:=pj (os.take i) 0 [] k o (by rw[List.getElem?_take,if_pos b];exact a)
   rw[List.take_take,Nat.min_eq_left (by omega),←h1] at h2
   simpa using h2
def BE (ops:Array Oper)(i j:Nat):Bool:=tb (BC (lS ops.toList 0 []) i) j
theorem Gj : ∀ {l:List Edge},uQ i l=true→∀ e,e∈l→Region.binds .any e=true→e.on<i:=by
 intro l
 induction l with
 | nil=>intro _ e he;simp at he
 | cons a r f=>
   intro h e he c
   simp only[uQ] at h
   cases b:Region.binds .any a with
   | true=>
     rw[b] at h
     cases d:Nat.ble (a.on+1) i with
     | true=>
       rw[d] at h
       rcases List.mem_cons.1 he with rfl | he
       · exact eL d
       · exact f h e he c
     | false=>rw[d] at h;simp at h
   | false=>
     rw[b] at h
     rcases List.mem_cons.1 he with rfl | he
     · rw[b] at c;simp at c
     · exact f h e he c
variable {ops : Array Oper} {o : Oper}
theorem HJ {m:Nat}:∀ {l:List (Nat×Oper)},xS ops o m l=true→∀ j p,(j,p)∈l→tb m j=false→o.apart ops p=true:=by
 intro l
 induction l with
 | nil=>intro _ j p h;simp at h
 | cons a r d=>
   obtain⟨k,q⟩:=a
   intro h j p hm b
   simp only[xS] at h
   have c:tb m k=false→o.apart ops q=true:=by
     intro e
     rw[e] at h
     cases f:o.apart ops q with
     | true=>rfl
     | false=>rw[f] at h;simp at h
   have g:xS ops o m r=true:=by
     cases e:tb m k with
     | true=>rw[e] at h;exact h
     | false=>rw[e,c e] at h;exact h
   rcases List.mem_cons.1 hm with e | hm
   · simp only[iy] at e
     obtain⟨rfl,rfl⟩:=e
     exact c b
   · exact d g j p hm b
theorem CY : ∀(os:List Oper) (i:Nat) (eH:List (Nat×Nat)) (done:List (Nat×Oper)),IC ops os i eH done=true→∀ k o,os[k]? = some o →
   uQ (i+k) o.after.toList=true∧(∀ j p,(j,p)∈done→tb (BC (lS os i eH) (i+k)) j=false→o.apart ops p=true) ∧
     ∀ b,b<k→∀ p,os[b]? = some p→tb (BC (lS os i eH) (i+k)) (i+b)=false→o.apart ops p=true:=by
 intro os
 induction os with
 | nil=>intro i eH done _ k o h;simp at h
 | cons a os n=>
   intro i eH done h k o e
   simp only[IC] at h
   split at h<;>try (simp at h;done)
   rename_i h1
   split at h<;>try (simp at h;done)
   rename_i h2
   cases k with
   | zero=>
     simp at e;subst e
     have q:BC (lS (a::os) i eH) (i+0)=al eH a.after.toList:=pj (a::os) i eH 0 a rfl
     refine⟨h1,fun j p c d=>HJ h2 j p c (by rw[q] at d;exact d),fun b g=>by omega⟩
   | succ k=>
     obtain⟨l,f,m⟩:=n (i+1) _ _ h k o (by simpa using e)
     have r:i+1+k=i+(k+1):=by omega
     rw[r] at l f m
     refine⟨l,fun j p c d=>f j p (ug _ c) d,fun b g p c d=>?_⟩
     cases b with
     | zero=>simp at c;subst c;exact f i _ (List.mem_cons_self ..) d
     | succ b=>exact m b (by omega) p (by simpa using c) (by rw[show i+1+b=i+(b+1) from by omega];exact d)
theorem yN (h:CE ops=true)(i j:Nat)(a b:Oper)(d:j<i)(e:BE ops i j=false)(f:ops[i]? = some a)(c:ops[j]? = some b):a.apart ops b=true:=by
 obtain⟨_,_,q⟩:=CY ops.toList 0 [] [] h i a (by simpa using f)
 exact q j d b (by simpa using c) (by simpa [BE] using e)
theorem CZ (a:ops[i]? = some o):BC (lS ops.toList 0 []) i=al (lS (ops.toList.take i) 0 []) o.after.toList:=by
 have:=pj ops.toList 0 [] i o (by simpa using a)
 simpa using this
theorem yP (h:CE ops=true):CD ops (BE ops):=by
 have low:∀ i o e,ops[i]? = some o→e∈o.after→Region.binds .any e=true→e.on<i:=by
   intro i o e c k l
   obtain⟨q,_,_⟩:=CY ops.toList 0 [] [] h i o (by simpa using c)
   have:=Gj q e (by simpa using k) l
   omega
 refine⟨low,fun i j a=>?_⟩
 cases c:ops[i]? with
 | none=>
   have m:ops.toList.length≤i:=by have:=Array.getElem?_eq_none_iff.1 c;simpa using this
   unfold BE at a
   rw[B9 _ _ _ _ (by omega)] at a
   rw[show BC [] i=0 from rfl,IU] at a
   simp at a
 | some o=>
   unfold BE at a
   rw[CZ c] at a
   obtain⟨e,f,g,b⟩:=Gi.1 a
   refine⟨o,e,rfl,by simpa using f,g,?_⟩
   rcases b with b | b
   · exact .inl b
   · refine .inr ?_
     have d:=low i o e c (by simpa using f) g
     rw[HI _ d] at b
     exact b
end
end Go.Eng
namespace Go.Eng
noncomputable section
variable {S : af} {E1 E2 : Nat → af}
theorem MM : ∀ {m:Nat},(∀ j,j<m→E1 j=E2 j)→nn S E1 m=nn S E2 m:=by
 intro m h
 cases m with
 | zero=>rfl
 | succ m=>simp only[nn,h m (by omega)]
variable {ops : Array Oper} {F : ad} {X : Nat → Bool} {t : Nat}
theorem MN {v1 a:Nat→AV}:∀ {m:Nat},(∀ j,j<m→E1 j=E2 j)→(∀ j,j<m→v1 j=a j) →
   sv ops F S E1 v1 X m t=sv ops F S E2 a X m t:=by
 intro m
 induction m with
 | zero=>intro _ _;rfl
 | succ m c=>
   intro h b
   simp only[sv,c (fun j d=>h j (by omega)) (fun j d=>b j (by omega)),b m (by omega),nn,h m (by omega)]
variable {id : Nat}
theorem MO {c1 c2:Nat→Nat→Option (Option ak)}:∀ {m:Nat},(∀ j,j<m→E1 j=E2 j)→(∀ j,j<m→c1 j=c2 j) →
   ov S E1 c1 X m id=ov S E2 c2 X m id:=by
 intro m
 induction m with
 | zero=>intro _ _;rfl
 | succ m b=>
   intro h a
   simp only[ov,b (fun j c=>h j (by omega)) (fun j c=>a j (by omega)),a m (by omega),nn,h m (by omega)]
variable {α : Type}
def j2 (f:Nat→α)(i:Nat)(x:α):Nat→α:=fun j=>if j=i then x else f j
theorem dZ (f:Nat→α)(i:Nat)(x:α):j2 f i x i=x:=by simp[j2]
theorem fW (f:Nat→α){i j:Nat}(x:α)(h:j<i):j2 f i x j=f j:=by simp[j2,show j≠i by omega]
structure DI (P : Program) (F0 : ad) (S0 : af) (D : sw) (E E' : Nat → af) (v : Nat → AV) (ch : Nat → Nat → Option (Option ak)) : Prop where
 hi : D.i ≤ D.ops.size
 os : D.os = D.ops.toList.drop D.i
 eH : D.eH = lS (D.ops.toList.take D.i) 0 []
 ok : CE D.ops = true
 dp : DP D.ops F0 S0 (BE D.ops) E E' v ch P D.i
 uq : ∀ t u, D.F.get t = some u → ∃ st, sv D.ops F0 S0 E' v (fun _ => true) D.i t = some (u, st)
 nx : D.S.nx = nn S0 E' D.i
 lim : D.S.lim = S0.lim
 Zr : S0.lim ≤ S0.nx
 get : ∀ id, D.S.get id = match ov S0 E' ch (fun _ => true) D.i id with
  | some (o, _) => some o
  | none => none
 j9 : ∀ j, j < D.i → ∀ id, ch j id ≠ none → ∃ c, (j, c) ∈ D.j9 ∧ c.has id = true
 es : ∀ j, j < D.i → ∀ id, (E j).get id ≠ none → (j, E j) ∈ D.es
 small : ∀ j c, (j, EM.NS c) ∈ D.j9 → ∀ id, pr c id = true → Ok id
 mode : F0.mode = .run
 todo : ∃ id, F0.todo = .code (.region id D.ops true) :: D.F.todo
 gQ : D.F.n = F0.n ∧ D.F.defers = F0.defers ∧ D.F.mode = F0.mode ∧ D.F.kind = F0.kind ∧ D.F.fn = F0.fn ∧ D.F.round = F0.round ∧ D.F.cm = F0.cm
theorem ad.Pb {d:Nat}{v u:AV}(h:(F.set d v).get t=some u):(t=d∧t<F.n∧u=v)∨(¬ (t=d∧t<F.n)∧F.get t=some u):=by
 unfold ad.set at h
 cases f:Nat.ble (d+1) F.n with
 | false=>
   rw[f] at h
   refine .inr ⟨?_,h⟩
   rintro⟨rfl,c⟩
   rw[tn (show t+1≤F.n from c)] at f;simp at f
 | true=>
   have c:d<F.n:=eL f
   rw[f] at h
   simp only at h
   by_cases e:t=d
   · subst e
     refine .inl ⟨rfl,c,?_⟩
     cases b:tb F.mask t with
     | true=>
       rw[b] at h
       simp only[ad.get,b,tB,ar] at h
       exact h.symm
     | false=>
       rw[b] at h
       simp only[ad.get,b,gz,Nat.beq_refl,ar] at h
       exact h.symm
   · refine .inr ⟨fun q=>e q.1,?_⟩
     cases b:tb F.mask d with
     | true=>
       rw[b] at h
       simp only[ad.get] at h ⊢
       cases a:tb F.mask t with
       | true=>rw[a] at h;simp only at h;rw[sk _ _ e] at h;exact h
       | false=>rw[a] at h;exact h
     | false=>
       rw[b] at h
       simp only[ad.get] at h ⊢
       cases a:tb F.mask t with
       | true=>rw[a] at h;exact h
       | false=>
         rw[a] at h
         simp only[gz] at h
         rw[show Nat.beq d t=false from by rw[Bool.eq_false_iff];exact fun q=>e (jK q).symm] at h
         exact h
theorem ad.MP (F:ad)(t:Nat)(v:AV):(F.set t v).n=F.n∧(F.set t v).defers=F.defers∧(F.set t v).mode=F.mode∧(F.set t v).kind=F.kind∧(F.set t v).fn=F.fn∧(F.set t v).round=F.round∧(F.set t v).cm=F.cm∧(F.set t v).todo=F.todo:=by
 unfold ad.set
 split
 · split<;>exact⟨rfl,rfl,rfl,rfl,rfl,rfl,rfl,rfl⟩
 · exact⟨rfl,rfl,rfl,rfl,rfl,rfl,rfl,rfl⟩
theorem ad.MQ (F:ad)(d:Option Tmp)(v:AV):(F.put d v).n=F.n∧(F.put d v).defers=F.defers∧(F.put d v).mode=F.mode∧(F.put d v).kind=F.kind∧(F.put d v).fn=F.fn∧(F.put d v).round=F.round∧(F.put d v).cm=F.cm∧(F.put d v).todo=F.todo:=by
 cases d with
 | none=>exact⟨rfl,rfl,rfl,rfl,rfl,rfl,rfl,rfl⟩
 | some t=>exact F.MP t v
variable {P : Program} {F0 : ad} {S0 : af} {D : sw} {E E' : Nat → af} {v : Nat → AV} {ch : Nat → Nat → Option (Option ak)} {o : Oper} {os : List Oper}
theorem DI.here (h:DI P F0 S0 D E E' v ch)(a:D.os=o::os) :
   D.ops[D.i]? = some o∧os=D.ops.toList.drop (D.i+1)∧D.i<D.ops.size∧D.ops.toList.take (D.i+1)=D.ops.toList.take D.i++[o]:=by
 have h1:=h.os
 rw[a] at h1
 have h2:D.ops.toList[D.i]? = some o:=by
   have:(D.ops.toList.drop D.i)[0]? = some o:=by rw[←h1];rfl
   rw[List.getElem?_drop] at this
   simpa using this
 refine⟨by simpa using h2,?_,?_,?_⟩
 · have:(D.ops.toList.drop D.i).tail=os:=by rw[←h1];rfl
   rw[←this,List.tail_drop]
 · have:=(List.getElem?_eq_some_iff.1 h2).1
   simpa using this
 · rw[List.take_add_one,h2];rfl
theorem Er (o:Oper):∀(os:List Oper) (i:Nat) (eH:List (Nat×Nat)),lS (os++[o]) i eH=(i+os.length,al (lS os i eH) o.after.toList)::lS os i eH:=by
 intro os
 induction os with
 | nil=>intro i eH;rfl
 | cons a os b=>
   intro i eH
   simp only[List.cons_append,lS,b,List.length_cons]
   rw[show i+1+os.length=i+(os.length+1) from by omega]
theorem DI.wf (h:DI P F0 S0 D E E' v ch)(b:∀ id o,S0.get id=some o→id<S0.nx){o:ak}(e:D.S.get id=some o):id<D.S.nx:=by
 rw[h.get] at e
 split at e<;>simp only[ar,reduceCtorEq] at e
 rename_i o' st a
 rw[h.nx]
 exact Nat.lt_of_lt_of_le (Qb h.dp b (Nat.le_refl _) a) (FB h.dp (Nat.le_refl _) a)
variable {En En' : af} {vn : AV}
theorem DI.step (h:DI P F0 S0 D E E' v ch)(ho:D.os=o::os){chn:Nat→Option (Option ak)}{K:Nat}(M:K=al D.eH o.after.toList)(hop:nh P D.ops o D.F.get En vn En')(N:En.nx=D.S.nx)(J:En.nx≤En'.nx)(Q:D.S.lim≤En.lim)(y:∀ id ob,En.get id=some ob→D.S.get id=some ob∧∀ j,j<D.i→tb K j=false→ch j id=none)(hR:∀ j,j<D.i→tb K j=false→∀ id,chn id≠none→id<D.S.nx→(E j).get id=none)(R:∀ id ob,chn id=some (some ob)→En'.get id=some ob)(T:∀ id ob,En.get id=some ob→En.lim≤id→chn id≠none)(U:∀ id,chn id≠none→En.lim≤id∧id<En'.nx)(V:∀ id,chn id≠none→En.get id≠none∨En.nx≤id){k:sw}(d1:k.F=K7 D.F o.dst vn)(z:k.ops=D.ops)(d3:k.os=os)(s:k.i=D.i+1)(d5:k.eH=(D.i,K)::D.eH)(s1:k.S.nx=En'.nx)(s2:k.S.lim=D.S.lim)(s3:∀ id,k.S.get id=match chn id with
     | some r=>r
     | none=>D.S.get id)(c1:∀ id,chn id≠none→∃ c,(D.i,c)∈k.j9∧c.has id=true)(c2:∀ p,p∈D.j9→p∈k.j9)(c3:∀ j c,(j,EM.NS c)∈k.j9→∀ id,pr c id=true→Ok id)(e1:∀ id,En.get id≠none→(D.i,En)∈k.es)(e2:∀ p,p∈D.es→p∈k.es) :
   DI P F0 S0 k (j2 E D.i En) (j2 E' D.i En') (j2 v D.i vn) (j2 ch D.i chn):=by
 obtain⟨h1,h2,h3,h4⟩:=h.here ho
 have B:∀ j,BE D.ops D.i j=tb K j:=by
   intro j
   unfold BE
   rw[CZ h1,M,h.eH]
 have C:∀ {m},m≤D.i→∀ j,j<m→j2 E' D.i En' j=E' j:=fun n j f=>fW _ _ (by omega)
 have av:∀ {m},m≤D.i→∀ j,j<m→j2 v D.i vn j=v j:=fun n j f=>fW _ _ (by omega)
 have ac:∀ {m},m≤D.i→∀ j,j<m→j2 ch D.i chn j=ch j:=fun n j f=>fW _ _ (by omega)
 have O:∀ {m},m≤D.i→nn S0 (j2 E' D.i En') m=nn S0 E' m:=fun n=>MM (C n)
 have G:∀ {m X t},m≤D.i→sv D.ops F0 S0 (j2 E' D.i En') (j2 v D.i vn) X m t=sv D.ops F0 S0 E' v X m t:=fun n=>MN (C n) (av n)
 have H:∀ {m X id},m≤D.i→ov S0 (j2 E' D.i En') (j2 ch D.i chn) X m id=ov S0 E' ch X m id:=fun n=>MO (C n) (ac n)
 have cs:∀ {i},i<D.i+1→i<D.i∨i=D.i:=fun hi=>by omega
 have Y:=D.F.MQ o.dst vn
 rw[←D2,←d1] at Y
 have dp:DP D.ops F0 S0 (BE D.ops) (j2 E D.i En) (j2 E' D.i En') (j2 v D.i vn) (j2 ch D.i chn) P (D.i+1):=by
   refine⟨?_,?_,?_,?_,?_,?_,?_,?_,?_,?_,?_⟩
   · intro i hi
     rcases cs hi with q | rfl
     · rw[fW _ _ q,O (by omega)];exact h.dp.Yi i q
     · rw[dZ,O (Nat.le_refl _),N,h.nx]
   · intro i hi
     rcases cs hi with q | rfl
     · rw[fW _ _ q,fW _ _ q];exact h.dp.mono i q
     · rw[dZ,dZ];exact J
   · intro i hi
     rcases cs hi with q | rfl
     · rw[fW _ _ q];exact h.dp.lim i q
     · rw[dZ,←h.lim];exact Q
   · intro i hi id ob e
     rcases cs hi with q | rfl
     · rw[fW _ _ q] at e
       obtain⟨st,L⟩:=h.dp.acy i q id ob e
       exact⟨st,by rw[H (by omega)];exact L⟩
     · rw[dZ] at e
       obtain⟨a,b⟩:=y id ob e
       rw[h.get] at a
       split at a<;>simp only[ar,reduceCtorEq] at a
       rename_i o' st L
       subst a
       refine⟨st,?_⟩
       rw[H (Nat.le_refl _),←L]
       refine w5 fun j f l=>?_
       cases A:BE D.ops D.i j with
       | true=>rfl
       | false=>exact absurd (b j f (by rw[←B];exact A)) l
   · intro i hi j f A id l
     rcases cs hi with q | rfl
     · rw[fW _ _ (show j<D.i by omega)] at l
       rw[fW _ _ q];exact h.dp.Hg i q j f A id l
     · rw[fW _ _ f] at l
       rw[dZ]
       cases e:En.get id with
       | none=>rfl
       | some ob=>exact absurd ((y id ob e).2 j f (by rw[←B];exact A)) l
   · intro i hi j f I A id l x
     rcases cs f with q | rfl
     · rw[fW _ _ q] at l x
       rw[fW _ _ (show i<D.i by omega)]
       exact h.dp.L7 i (by omega) j q I A id l x
     · rw[dZ] at l x
       rw[fW _ _ I]
       exact hR i I (by rw[←B];exact A) id l (by rw[←N];exact x)
   · intro i hi id ob e
     rcases cs hi with q | rfl
     · rw[fW _ _ q] at e;rw[fW _ _ q];exact h.dp.aqo i q id ob e
     · rw[dZ] at e;rw[dZ];exact R id ob e
   · intro i hi id ob e W
     rcases cs hi with q | rfl
     · rw[fW _ _ q] at e W;rw[fW _ _ q];exact h.dp.aqp i q id ob e W
     · rw[dZ] at e W;rw[dZ];exact T id ob e W
   · intro i hi id e
     rcases cs hi with q | rfl
     · rw[fW _ _ q] at e;rw[fW _ _ q,fW _ _ q];exact h.dp.YH i q id e
     · rw[dZ] at e;rw[dZ,dZ];exact U id e
   · intro i hi id e
     rcases cs hi with q | rfl
     · rw[fW _ _ q] at e;rw[fW _ _ q];exact h.dp.acz i q id e
     · rw[dZ] at e;rw[dZ];exact V id e
   · intro i hi
     rcases cs hi with q | rfl
     · obtain⟨oi,a,b⟩:=h.dp.op i q
       refine⟨oi,a,?_⟩
       rw[fW _ _ q,fW _ _ q,fW _ _ q]
       simp only[G (show i≤D.i by omega)]
       exact b
     · refine⟨o,h1,?_⟩
       rw[dZ,dZ,dZ]
       refine hop.mono fun t u e=>?_
       obtain⟨st,L⟩:=h.uq t u e
       rw[G (Nat.le_refl _),L]
 refine⟨?_,?_,?_,?_,?_,?_,?_,?_,h.Zr,?_,?_,?_,c3,h.mode,?_,?_⟩
 · rw[s,z];omega
 · rw[d3,z,s];exact h2
 · rw[d5,z,s,h4,Er,←h.eH,M]
   congr 2
   have:(D.ops.toList.take D.i).length=D.i:=by rw[List.length_take];simp;omega
   omega
 · rw[z];exact h.ok
 · rw[z,s];exact dp
 · intro t u e
   rw[z,s]
   simp only[sv,dZ,true_and]
   have hdo:tM D.ops D.i=o.dst:=by simp[tM,h1]
   rw[hdo,G (Nat.le_refl _)]
   rw[d1,D2] at e
   cases hd:o.dst with
   | none=>
     rw[hd] at e
     rw[if_neg (by simp)]
     exact h.uq t u e
   | some d=>
     rw[hd] at e
     rcases ad.Pb e with⟨Z,q2,q3⟩ | ⟨Z,q2⟩
     · subst Z;subst q3
       rw[if_pos ⟨rfl,by rw[←h.gQ.1];exact q2⟩]
       exact⟨_,rfl⟩
     · rw[if_neg]
       · exact h.uq t u q2
       · rintro⟨a,b⟩
         simp only[ar] at a
         exact Z ⟨a.symm,by rw[h.gQ.1];exact b⟩
 · rw[s1,s];simp only[nn,dZ]
 · rw[s2];exact h.lim
 · intro id
   rw[s3,s]
   simp only[ov,dZ,if_true,H (Nat.le_refl _)]
   cases l:chn id with
   | none=>exact h.get id
   | some r=>cases r<;>rfl
 · intro j f id e
   rw[s] at f
   rcases cs f with q | rfl
   · rw[fW _ _ q] at e
     obtain⟨c,a,b⟩:=h.j9 j q id e
     exact⟨c,c2 _ a,b⟩
   · rw[dZ] at e;exact c1 id e
 · intro j f id e
   rw[s] at f
   rcases cs f with q | rfl
   · rw[fW _ _ q] at e ⊢;exact e2 _ (h.es j q id e)
   · rw[dZ] at e ⊢;exact e1 id e
 · obtain⟨id,e⟩:=h.todo
   exact⟨id,by rw[Y.2.2.2.2.2.2.2,z];exact e⟩
 · obtain⟨k1,k2,k3,k4,k5,k6,k7⟩:=h.gQ
   obtain⟨a1,a2,a3,a4,a5,a6,a7,_⟩:=Y
   exact⟨a1.trans k1,a2.trans k2,a3.trans k3,a4.trans k4,a5.trans k5,a6.trans k6,a7.trans k7⟩
theorem DI.start (b:CE D.ops=true)(k:S0.lim≤S0.nx)(l:F0.mode=.run)(m:F0.todo=.code (.region id D.ops true)::D.F.todo)(d:D.F=wH F0 D.F.todo)(a:D.S=S0)(n:D.os=D.ops.toList)(hi:D.i=0)(p:D.eH=[])(q:D.j9=[]) :
   DI P F0 S0 D (fun _=>S0) (fun _=>S0) (fun _=>.top) (fun _ _=>none):=by
 refine⟨by omega,by rw[hi];simpa using n,by rw[hi,p];rfl,b,?_,?_,?_,by rw[a],k,?_,?_,?_,?_,l,⟨id,m⟩,?_⟩
 · rw[hi]
   exact⟨fun _ h=>by omega,fun _ h=>by omega,fun _ h=>by omega,fun _ h=>by omega,fun _ h=>by omega,fun _ h=>by omega,fun _ h=>by omega,fun _ h=>by omega,fun _ h=>by omega,fun _ h=>by omega,fun _ h=>by omega⟩
 · intro t u e
   rw[hi]
   have:F0.get t=some u:=by
    rw[d,AD] at e
    simp only[ad.get] at e ⊢
    cases f:tb F0.mask t with
    | true=>rw[f] at e;exact e
    | false=>rw[f] at e;simp[oh] at e
   exact⟨_,by simp only[sv,this];rfl⟩
 · rw[hi,a];rfl
 · intro id;rw[hi,a];simp only[ov];cases S0.get id<;>rfl
 · intro j r;omega
 · intro j r;omega
 · intro j c h;rw[q] at h;simp at h
 · rw[d,AD];exact⟨rfl,rfl,rfl,rfl,rfl,rfl,rfl⟩
theorem DI.jg (a:P.follows .mixedOrders=true)(h:DI P F0 S0 D E E' v ch)(b:D.os=[]){G:ad→af→Prop}(f:Reach P (wH D.F D.F.todo) D.S G):Reach P F0 S0 G:=by
 have k:D.i=D.ops.size:=by
  have h1:=h.os
  rw[b] at h1
  have:=List.drop_eq_nil_iff.1 h1.symm
  simp at this
  have:=h.hi
  omega
 obtain⟨id,l⟩:=h.todo
 obtain⟨k1,k2,k3,k4,k5,k6,k7⟩:=h.gQ
 exact Reach.drawn a h.mode l h.dp k (yP h.ok) (fun i j m n _ p q b c=>yN h.ok i j m n p q b c) (F' := wH D.F D.F.todo) ⟨k1,rfl,k2,k3⟩ k4 k5 k6 k7
  (fun t u e=>by
   have:D.F.get t=some u:=by
    rw[AD] at e
    simp only[ad.get] at e ⊢
    cases d:tb D.F.mask t with
    | true=>rw[d] at e;exact e
    | false=>rw[d] at e;simp[oh] at e
   exact h.uq t u this) h.nx h.lim h.get f
structure IE (E E' : af) : Prop where
 nx : E.nx ≤ E'.nx
 lim : E'.lim = E.lim
 sM : ∀ id, id < E.lim → E'.get id = E.get id
 dead : ∀ id, id < E.nx → E.get id = none → E'.get id = none
 wf : ∀ id o, E'.get id = some o → id < E'.nx
variable {g : Gh} {w : World} {fr : Frame}
theorem DJ.init (z:mW P g F fr)(hi:Inv S g w)(td:List Item)(n:Nat) :
   DJ ops F S E' v ch (fun _=>false) n g w fr g w { fr with todo:=td }:=by
 have q:∀ m t,sv ops F S E' v (fun _=>false) m t=sv ops F S E' v (fun _=>false) 0 t:=by
   intro m t
   exact Iz (i:=0) (Nat.zero_le _) (fun j _ _ e=>by simp at e)
 have d:∀ m id,ov S E' ch (fun _=>false) m id=ov S E' ch (fun _=>false) 0 id:=by
   intro m id
   exact Fm (i:=0) (Nat.zero_le _) (fun j _ _ e=>by simp at e)
 have f:∀ {id l},g.ph id=some l→(g.cut S.nx).ph id=some l:=fun e=>Gh.DL (hi.CA e) e
 have k:Gh.le g (g.cut S.nx):=⟨fun _ _ e=>e,fun _ _ e=>f e⟩
 refine⟨?_,?_,?_,hi.ro,fun id l e=>.inl (hi.CA e),Nat.le_refl _,rfl,⟨rfl,Nat.le_refl _⟩,rfl,fun _ _ _=>rfl,?_,Gh.le_refl _,fun _ _=>rfl,fun _ _ e _=>.inl e,fun _ _=>rfl,z.size,rfl⟩
 · intro t u st e
   rw[q] at e
   simp only[sv] at e
   split at e<;>simp only[ar,iy,reduceCtorEq] at e
   rename_i L A
   obtain⟨rfl,rfl⟩:=e
   obtain⟨x,a,b⟩:=z.get t _ A
   exact⟨x,a,b.mono k⟩
 · intro id o st e
   rw[d] at e
   simp only[ov] at e
   split at e<;>simp only[ar,iy,reduceCtorEq] at e
   rename_i o' B
   obtain⟨rfl,rfl⟩:=e
   obtain⟨l,a,b,c⟩:=hi.ob id _ B
   exact⟨l,f a,b,c.mono k⟩
 · intro id s o o' st J l l' e r p C G
   rw[d] at e r
   simp only[ov] at e r
   split at e<;>simp only[ar,iy,reduceCtorEq] at e
   rename_i o1 h
   split at r<;>simp only[ar,iy,reduceCtorEq] at r
   rename_i o2 y
   exact hi.inj id s o1 o2 l l' h y p C G
 · intro id o st l e H I K
   rw[d] at e
   simp only[ov] at e
   split at e<;>simp only[ar,iy,reduceCtorEq] at e
   rename_i o1 h
   exact⟨id,o1,l,h,H,I,rfl⟩
theorem CD.lt {f:Nat→Nat→Bool}(h:CD ops f):∀ i j,f i j=true→j<i:=by
 intro i
 induction i using Nat.strongRecOn with
 | _ i k=>
   intro j l
   obtain⟨o,e,a,b,c,d⟩:=h.up i j l
   have:=h.low i o e a b c
   rcases d with d | d
   · omega
   · have:=k e.on this j d;omega
theorem DI.inst (h:DI P F0 S0 D E E' v ch)(I:mW P g F0 fr)(hi:Inv S0 g w) :
   ∃(d:Frame) (w' : World) (g' : Gh),d.mode=.run∧d.todo=[.inRegion D.ops [D.i]]∧Inv D.S g' w' ∧ ∀ t u,D.F.get t=some u→∃ x,d.tmps[t]? = some x∧VR g' u x:=by
 have m:=I.runs h.mode
 have J:=yP h.ok
 have key:∀ k,k≤D.i→∃(d:Frame) (w' : World) (g' : Gh),DJ D.ops F0 S0 E' v ch (fun j=>decide (j<k)) D.i g w fr g' w' d∧d.todo=[.inRegion D.ops (List.range' k (D.i+1-k))]:=by
   intro k
   induction k with
   | zero=>
     intro _
     exact⟨{ fr with todo:=[.inRegion D.ops (List.range' 0 (D.i+1-0))] },w,g,(DJ.init I hi _ _).congr fun j _=>by simp,rfl⟩
   | succ k K=>
     intro hk
     obtain⟨r,w1,A,a,b⟩:=K (by omega)
     rw[show D.i+1-k=(D.i+1-(k+1))+1 from by omega,List.range'_succ] at b
     obtain ⟨B,L,M,_,N,a2⟩:=a.step (cs:=[]) h.dp h.hi (fun i j O Q _ f R T C=>yN h.ok i j O Q f R T C) (fun id o e=>hi.jy e) (i:=k) (by omega) (by simp)
       (fun j f=>by
        have f:j<k:=by simpa using f
        exact⟨by omega,fun l U=>by have:=J.lt j l U;simp;omega⟩) (fun j f=>by have:=J.lt k j f;simpa using this) m b
     refine⟨B,L,M,a2.congr fun j _=>?_,N⟩
     by_cases e:j=k
     · subst e;rw[qV];simp
     · rw[pc _ e];simp only[decide_eq_decide];omega
 obtain⟨r,w1,A,a,b⟩:=key D.i (Nat.le_refl _)
 have y:=a.congr (Y:=fun _=>true) fun j f=>by simpa using f
 have s:r.mode=.run:=by rw[a.frame];exact m
 refine⟨r,w1,A,s,by rw[b,show D.i+1-D.i=1 from by omega];rfl,⟨y.ro,?_,?_,?_⟩,?_⟩
 · intro id o e
   rw[h.get] at e
   split at e<;>simp only[ar,reduceCtorEq] at e
   rename_i o' st n
   subst e
   obtain⟨l,a,b,c⟩:=y.ob id _ st n
   exact⟨l,(Gh.jM a).2,b,c.mono (Gh.Av _ _)⟩
 · intro id G o o' l l' e n p V W
   rw[h.get] at e n
   split at e<;>simp only[ar,reduceCtorEq] at e
   rename_i o1 H Z
   split at n<;>simp only[ar,reduceCtorEq] at n
   rename_i o2 z e2
   exact y.inj id G o1 o2 H z l l' Z e2 p V W
 · intro id aQ
   cases e:A.ph id with
   | none=>rfl
   | some l=>
     exfalso
     rw[h.nx] at aQ
     rcases y.YI id l e with q | ⟨j,q1,_,_,q3⟩
     · have:=mD h.dp (Nat.zero_le D.i) (Nat.le_refl _)
       have h0:nn S0 E' 0=S0.nx:=rfl
       omega
     · have:=mD h.dp (show j+1≤D.i by omega) (Nat.le_refl _)
       omega
 · intro t u e
   obtain⟨st,n⟩:=h.uq t u e
   obtain⟨x,a,b⟩:=y.uq t u st n
   exact⟨x,a,b.mono (Gh.Av _ _)⟩
theorem Inv.less {A B:af}(c:A.nx=B.nx)(a:∀ id o,A.get id=some o→B.get id=some o)(h:Inv B g w):Inv A g w:=
 ⟨h.ro,fun id o e=>h.ob id o (a id o e),fun id b o o' l l' e d=>h.inj id b o o' l l' (a _ _ e) (a _ _ d),fun id aQ=>h.fresh id (by rw[←c];exact aQ)⟩
theorem DI.facts (h:DI P F0 S0 D E E' v ch)(l:mW P g F0 fr)(hi:Inv S0 g w)(m:D.os=o::os)(j:nh P D.ops o D.F.get En vn En')(n:En.nx=D.S.nx)(p:∀ id ob,En.get id=some ob→D.S.get id=some ob):IE En En' := by
 obtain⟨k,w1,q,a,b,c,d⟩:=h.inst l hi
 obtain⟨s,y,x,_,_,r,f⟩:=j q w1 k [] D.i [] [] a b (h.here m).1 (fun t _ u e=>d t u e) (c.less n p)
 exact⟨f.nx,f.lim,f.sM,f.dead,fun id o e=>r.jy e⟩
end
end Go.Eng
namespace Go.Eng
noncomputable section
theorem AT (a b:tH)(id:Nat):pr (a++b) id=(pr a id||pr b id):=by
 induction a with
 | nil=>rfl
 | cons p r d=>
   obtain⟨k,o⟩:=p
   simp only[List.cons_append,pr]
   cases Nat.beq k id with
   | true=>rfl
   | false=>exact d
variable {c : tH} {id : Nat}
theorem qF (h:pr c id=true):∃ ob,(id,ob)∈c:=by
 induction c with
 | nil=>simp[pr] at h
 | cons p r b=>
   obtain⟨k,o⟩:=p
   simp only[pr] at h
   cases a:Nat.beq k id with
   | true=>
     have:k=id:=jK a
     subst this;exact⟨o,List.mem_cons_self ..⟩
   | false=>
     rw[a] at h
     obtain⟨ob,q⟩:=b h
     exact⟨ob,ug _ q⟩
theorem Xw {ob:Option ak}(h:(id,ob)∈c):pr c id=true:=by
 induction c with
 | nil=>simp at h
 | cons p r a=>
   obtain⟨k,o⟩:=p
   simp only[pr]
   rcases List.mem_cons.1 h with e | h
   · simp only[iy] at e
     rw[←e.1,Nat.beq_refl]
   · cases Nat.beq k id with
     | true=>rfl
     | false=>exact a h
def yq (c:tH)(G:af):Prop:=∀ id ob,(id,ob)∈c→Ok id∧∀ x,ob=some x→G.get id=some x
variable {G : af}
theorem yq.lt (h:yq c G)(e:pr c id=true):Ok id:=let ⟨ob,q⟩:=qF e;(h id ob q).1
theorem yq.append {a b:tH}(h:yq a G)(d:yq b G):yq (a++b) G:=by
 intro id ob e
 rcases List.mem_append.1 e with q | q
 · exact h id ob q
 · exact d id ob q
theorem sX (hi:Ok id):∀ {c:tH} {m:PT},(∀ k ob,(k,ob)∈c→Ok k)→pr c id=false→PT.get dep (rQ m c) id=PT.get dep m id:=by
 intro c
 induction c with
 | nil=>intro m _ _;rfl
 | cons p r f=>
   obtain⟨k,o⟩:=p
   intro m d h
   simp only[pr] at h
   split at h
   · simp at h
   · rename_i e
     simp only[rQ]
     rw[f (fun a b q=>d a b (ug _ q)) h]
     exact PT.au dep m k id o (d k o (List.mem_cons_self ..)) hi (by rintro rfl;rw[Nat.beq_refl] at e;simp at e)
theorem zT (hi:Ok id):∀ {c:tH} {m:PT},(∀ k ob,(k,ob)∈c→Ok k)→pr c id=true→∃ ob,(id,ob)∈c∧PT.get dep (rQ m c) id=ob:=by
 intro c
 induction c with
 | nil=>intro m _ h;simp[pr] at h
 | cons p r f=>
   obtain⟨k,o⟩:=p
   intro m g h
   have d:∀ a b,(a,b)∈r→Ok a:=fun a b q=>g a b (ug _ q)
   simp only[rQ]
   cases e:pr r id with
   | true=>
     obtain⟨ob,i,j⟩:=f (m:=PT.set dep m k o) d e
     exact⟨ob,ug _ i,j⟩
   | false=>
     simp only[pr] at h
     split at h
     · rename_i l
       have:k=id:=jK l
       subst this
       refine⟨o,List.mem_cons_self .., ?_⟩
       rw[sX hi d e]
       exact PT.bD _ _ _ _
     · rw[e] at h;simp at h
variable {pi : Nat}
theorem Gk : ∀ {l:List (Nat×EM)},iU pi l id=true→∀ j c,(j,c)∈l→tb pi j=false→c.has id=false:=by
 intro l
 induction l with
 | nil=>intro _ j c h;simp at h
 | cons p r f=>
   obtain⟨k,d⟩:=p
   intro h j c hm a
   simp only[iU] at h
   have b:tb pi k=false→d.has id=false:=by
    intro e;rw[e] at h
    cases q:d.has id with
    | false=>rfl
    | true=>rw[q] at h;simp at h
   have g:iU pi r id=true:=by
    cases e:tb pi k with
    | true=>rw[e] at h;exact h
    | false=>rw[e,b e] at h;exact h
   rcases List.mem_cons.1 hm with e | hm
   · simp only[iy] at e;obtain⟨rfl,rfl⟩:=e;exact b a
   · exact f g j c hm a
theorem HK : ∀ {l:List (Nat×af)},rj pi l id=true→∀ j E,(j,E)∈l→tb pi j=false→E.get id=none:=by
 intro l
 induction l with
 | nil=>intro _ j c h;simp at h
 | cons p r f=>
   obtain⟨k,d⟩:=p
   intro h j c hm a
   simp only[rj] at h
   have b:tb pi k=false→d.get id=none:=by
    intro e;rw[e] at h
    cases q:d.get id with
    | none=>rfl
    | some x=>rw[q] at h;simp at h
   have g:rj pi r id=true:=by
    cases e:tb pi k with
    | true=>rw[e] at h;exact h
    | false=>rw[e,b e] at h;exact h
   rcases List.mem_cons.1 hm with e | hm
   · simp only[iy] at e;obtain⟨rfl,rfl⟩:=e;exact b a
   · exact f g j c hm a
theorem pk {nx:Nat}{es:List (Nat×af)}:∀ {l:List Nat},jS pi es nx l=true→∀ id,id∈l→id<nx→rj pi es id=true:=by
 intro l
 induction l with
 | nil=>intro _ id h;simp at h
 | cons k r b=>
   intro h id hm a
   simp only[jS] at h
   have d:jS pi es nx r=true:=by
     split at h
     · exact h
     · split at h
       · exact h
       · simp at h
   rcases List.mem_cons.1 hm with rfl | hm
   · split at h
     · rename_i e
       have:=eL e
       omega
     · split at h
       · assumption
       · simp at h
   · exact b d id hm a
theorem JZ : ∀ {l:List (Nat×af)},yp pi l=true→∀ j E,(j,E)∈l→tb pi j=true:=by
 intro l
 induction l with
 | nil=>intro _ j E h;simp at h
 | cons p r a=>
   obtain⟨k,d⟩:=p
   intro h j E hm
   simp only[yp] at h
   split at h
   · rename_i e
     rcases List.mem_cons.1 hm with q | hm
     · simp only[iy] at q;obtain⟨rfl,rfl⟩:=q;exact e
     · exact a h j E hm
   · simp at h
variable {S : af} {o : ak}
theorem w7 {j9:List (Nat×EM)}(hi:Ok id):∀ {ids:List Nat} {m:PT},PT.get dep (seen S pi j9 ids m) id=some o →
   PT.get dep m id=some o∨(id∈ids∧S.get id=some o∧iU pi j9 id=true):=by
 intro ids
 induction ids with
 | nil=>intro m h;exact .inl h
 | cons k r b=>
   intro m h
   simp only[seen] at h
   have up:∀ {m},PT.get dep (seen S pi j9 r m) id=some o→PT.get dep m id=some o∨(id∈k::r∧S.get id=some o∧iU pi j9 id=true):=by
     intro m h
     rcases b h with q | ⟨d,f,g⟩
     · exact .inl q
     · exact .inr ⟨ug _ d,f,g⟩
   split at h
   · rename_i i
     split at h
     · rename_i ob a
       have j:=af.dY a
       rcases up h with q | q
       · by_cases e:k=id
         · subst e
           rw[PT.bD] at q
           simp only[ar] at q
           subst q
           exact .inr ⟨List.mem_cons_self .., a,i⟩
         · rw[PT.au dep m k id _ j hi e] at q
           exact .inl q
       · exact .inr q
     · exact up h
   · exact up h
theorem MR (hi:Ok id):∀ {l:List Nat} {m:PT},(∀ k,k∈l→Ok k)→PT.get dep (jf m l) id=some o→id∉l∧PT.get dep m id=some o:=by
 intro l
 induction l with
 | nil=>intro m _ h;exact⟨by simp,h⟩
 | cons k r g=>
   intro m f h
   obtain⟨i,d⟩:=g (m:=PT.set dep m k none) (fun a b=>f a (ug _ b)) h
   by_cases e:k=id
   · subst e;rw[PT.bD] at d;simp at d
   · rw[PT.au dep m k id _ (f k (List.mem_cons_self ..)) hi e] at d
     exact⟨by simp only[List.mem_cons,not_or];exact⟨fun q=>e q.symm,i⟩,d⟩
theorem HL (hi:Ok id):∀ {l:List Nat} {m:PT},(∀ k,k∈l→Ok k)→PT.get dep (vM S m l) id=if id∈l then S.get id else PT.get dep m id:=by
 intro l
 induction l with
 | nil=>intro m _;simp[vM]
 | cons k r g=>
   intro m f
   simp only[vM]
   rw[g fun a b=>f a (ug _ b)]
   by_cases d:id∈r
   · rw[if_pos d,if_pos (ug _ d)]
   · rw[if_neg d]
     by_cases e:k=id
     · subst e;rw[PT.bD,if_pos (List.mem_cons_self ..)]
     · rw[PT.au dep m k id _ (f k (List.mem_cons_self ..)) hi e,if_neg (by simp only[List.mem_cons,not_or];exact⟨fun q=>e q.symm,d⟩)]
theorem HM : ∀ {l:List (Nat×EM)} {aQ:List Nat},hidden pi l=some aQ→(∀ j c,(j,c)∈l→tb pi j=false→∀ id,c.has id=true→id∈aQ)∧∀ id,id∈aQ→∃ j c,(j,EM.NS c)∈l∧pr c id=true:=by
 intro l
 induction l with
 | nil=>intro aQ h;simp only[hidden,ar] at h;subst h;exact⟨fun j c q=>by simp at q,fun id q=>by simp at q⟩
 | cons p r s=>
   obtain⟨k,d⟩:=p
   intro aQ h
   simp only[hidden] at h
   cases e:tb pi k with
   | true=>
     rw[e] at h
     obtain⟨i,m⟩:=s h
     refine⟨fun j c hm f id g=>?_,fun id hm=>let ⟨j,c,a,b⟩:=m id hm;⟨j,c,ug _ a,b⟩⟩
     rcases List.mem_cons.1 hm with q | hm
     · simp only[iy] at q;obtain⟨rfl,rfl⟩:=q;rw[e] at f;simp at f
     · exact i j c hm f id g
   | false=>
     rw[e] at h
     cases d with
     | wide a b=>simp at h
     | NS c=>
       simp only at h
       cases n:hidden pi r with
       | none=>rw[n] at h;simp at h
       | some l=>
         rw[n] at h
         simp only[ar] at h
         subst h
         obtain⟨i,m⟩:=s n
         refine⟨fun j c' hm f id g=>?_,fun id hm=>?_⟩
         · rcases List.mem_cons.1 hm with q | hm
           · simp only[iy] at q;obtain⟨rfl,rfl⟩:=q
             obtain⟨ob,q⟩:=qF (show pr c id=true from g)
             exact List.mem_append.2 (.inl (List.mem_map.2 ⟨_,q,rfl⟩))
           · exact List.mem_append.2 (.inr (i j c' hm f id g))
         · rcases List.mem_append.1 hm with q | q
           · obtain⟨⟨t,ob⟩,a,b⟩:=List.mem_map.1 q
             simp only at b;subst b
             exact⟨k,c,List.mem_cons_self .., Xw a⟩
           · obtain⟨j,c', a,b⟩:=m id q
             exact⟨j,c', ug _ a,b⟩
variable {E : af}
theorem AU : ∀ {ids:List Nat} {id:Nat} {ob:Option ak},(id,ob)∈np E S ids→id∈ids∧E.get id≠none∧ob=S.get id:=by
 intro ids
 induction ids with
 | nil=>intro id ob h;simp[np] at h
 | cons k r d=>
   intro id ob h
   simp only[np] at h
   split at h
   · rename_i x hx
     rcases List.mem_cons.1 h with q | h
     · simp only[iy] at q
       obtain⟨rfl,rfl⟩:=q
       exact⟨List.mem_cons_self .., by rw[hx];simp,rfl⟩
     · obtain⟨a,b⟩:=d h;exact⟨ug _ a,b⟩
   · obtain⟨a,b⟩:=d h;exact⟨ug _ a,b⟩
theorem J0 : ∀ {ids:List Nat} {id:Nat},id∈ids→E.get id≠none→pr (np E S ids) id=true:=by
 intro ids
 induction ids with
 | nil=>intro id h;simp at h
 | cons k r b=>
   intro id h a
   simp only[np]
   cases e:E.get k with
   | some x=>
     simp only[pr]
     cases d:Nat.beq k id with
     | true=>rfl
     | false=>
       rcases List.mem_cons.1 h with rfl | h
       · rw[Nat.beq_refl] at d;simp at d
       · exact b h a
   | none=>
     rcases List.mem_cons.1 h with rfl | h
     · exact absurd e a
     · exact b h a
theorem vV {n:Nat}:∀ {k id:Nat} {ob:Option ak},(id,ob)∈sC E n k→n≤id∧id<n+k∧E.get id≠none∧ob=E.get id:=by
 intro k
 induction k with
 | zero=>intro id ob h;simp[sC] at h
 | succ k d=>
   intro id ob h
   simp only[sC] at h
   split at h
   · rename_i x hx
     rcases List.mem_cons.1 h with q | h
     · simp only[iy] at q
       obtain⟨rfl,rfl⟩:=q
       exact⟨by omega,by omega,by rw[hx];simp,hx.symm⟩
     · obtain⟨a,b,c⟩:=d h;exact⟨a,by omega,c⟩
   · obtain⟨a,b,c⟩:=d h;exact⟨a,by omega,c⟩
variable {lo : Nat}
theorem MS {a:tH}(h:QY E lo a id=some o):lo≤id∧E.get id=some o:=by
 unfold QY at h
 split at h<;>try (simp at h;done)
 rename_i h1
 split at h<;>try (simp at h;done)
 exact⟨eL h1,h⟩
theorem oz : ∀ {n:Nat} {l:List AV} {b:tH} {id:Nat} {ob:Option ak},(id,ob)∈ja E lo n l b→(id,ob)∈b∨(lo≤id∧E.get id≠none∧ob=E.get id):=by
 intro n
 induction n with
 | zero=>intro l b id ob h;exact .inl (by cases l<;>exact h)
 | succ n d=>
   intro l b id ob h
   cases l with
   | nil=>exact .inl h
   | cons v r=>
     simp only[ja] at h
     split at h
     · exact d h
     · split at h
       · rename_i o e
         obtain⟨a,c⟩:=MS e
         rcases d h with q | q
         · rcases List.mem_cons.1 q with q | q
           · simp only[iy] at q
             obtain⟨rfl,rfl⟩:=q
             exact .inr ⟨a,by rw[c];simp,c.symm⟩
           · exact .inl q
         · exact .inr q
       · exact d h
section
variable {P : Program} {F0 : ad} {S0 : af} {D : sw} {E E' : Nat → af} {v : Nat → AV} {ch : Nat → Nat → Option (Option ak)} {o : Oper} {os : List Oper}
theorem DI.clear (h:DI P F0 S0 D E E' v ch)(d:iU pi D.j9 id=true):∀ j,j<D.i→tb pi j=false→ch j id=none:=by
 intro j f g
 cases e:ch j id with
 | none=>rfl
 | some r=>
   obtain⟨c,a,b⟩:=h.j9 j f id (by rw[e];simp)
   rw[Gk d j c a g] at b
   simp at b
theorem DI.abk (h:DI P F0 S0 D E E' v ch)(a:rj pi D.es id=true):∀ j,j<D.i→tb pi j=false→(E j).get id=none:=by
 intro j b d
 cases e:(E j).get id with
 | none=>rfl
 | some r=>
   have:=HK a j _ (h.es j b id (by rw[e];simp)) d
   rw[e] at this;simp at this
theorem DI.next (h:DI P F0 S0 D E E' v ch)(H:D.os=o::os){En En' : af}{vn:AV}{c:tH}{Eo:Option af}
   (y:nh P D.ops o D.F.get En vn En') (z:En.nx=D.S.nx) (n:En.nx≤En'.nx) (u:D.S.lim≤En.lim)
   (w:∀ id ob,En.get id=some ob→D.S.get id=some ob∧∀ j,j<D.i→tb (al D.eH o.after.toList) j=false→ch j id=none)
   (I:∀ id,pr c id=true→id<D.S.nx→rj (al D.eH o.after.toList) D.es id=true)
   (d:yq c En') (J:∀ id ob,En.get id=some ob→En.lim≤id→pr c id=true)
   (C:∀ id,pr c id=true→En.lim≤id∧id<En'.nx∧(En.get id≠none∨En.nx≤id))
   (A:Eo=some En∨(Eo=none∧∀ id,En.get id=none)) :
   ∃ E E' v ch,DI P F0 S0 (D.next o os (al D.eH o.after.toList) vn En'.nx c Eo) E E' v ch:=by
 have t:∀ k ob,(k,ob)∈c→Ok k:=fun k ob q=>(d k ob q).1
 obtain⟨chn,g⟩:∃ f:Nat→Option (Option ak),f=fun id=>if pr c id=true then some (PT.get dep (rQ D.S.m c) id) else none:=⟨_,rfl⟩
 have h1:∀ id,chn id≠none→pr c id=true:=by
   intro id e
   rw[g] at e
   by_cases q:pr c id=true
   · exact q
   · exact absurd (if_neg q) e
 have h2:∀ id,pr c id=true→chn id=some (PT.get dep (rQ D.S.m c) id):=by intro id q;rw[g];simp[q]
 refine⟨_,_,_,_,h.step H (chn:=chn) (vn:=vn) rfl y z n u w ?_ ?_ ?_ ?_ ?_ rfl rfl rfl rfl rfl rfl rfl ?_ ?_ ?_ ?_ ?_ ?_⟩
 · intro j K L id e B
   exact h.abk (I id (h1 id e) B) j K L
 · intro id ob e
   have l:=h1 id (by rw[e];simp)
   rw[h2 id l] at e
   obtain⟨ob', a,b⟩:=zT (m:=D.S.m) (d.lt l) t l
   rw[b] at e
   simp only[ar] at e
   exact(d id ob' a).2 ob e
 · intro id ob e M
   rw[h2 id (J id ob e M)];simp
 · intro id e
   obtain⟨a,b,_⟩:=C id (h1 id e)
   exact⟨a,b⟩
 · intro id e
   exact(C id (h1 id e)).2.2
 · intro id
   by_cases aQ:Ok id
   · rw[af.bY aQ]
     show PT.get dep (rQ D.S.m c) id=_
     cases q:pr c id with
     | true=>rw[h2 id q]
     | false=>
       rw[sX aQ t q]
       have:chn id=none:=by rw[g];simp[q]
       rw[this]
       exact(af.bY aQ).symm
   · rw[af.fY aQ]
     cases q:chn id with
     | none=>exact(af.fY aQ).symm
     | some r=>exact absurd (d.lt (h1 id (by rw[q];simp))) aQ
 · intro id e
   have l:=h1 id e
   refine⟨.NS c,?_,l⟩
   simp only[sw.next,K8,xI]
   cases c with
   | nil=>simp[pr] at l
   | cons p r=>exact List.mem_cons_self ..
 · intro p s
   simp only[sw.next,K8,xI]
   cases c with
   | nil=>exact s
   | cons q r=>exact ug _ s
 · intro j c' x id l
   simp only[sw.next,K8,xI] at x
   cases c with
   | nil=>exact h.small j c' x id l
   | cons q r=>
     rcases List.mem_cons.1 x with e | e
     · simp only[iy,EM.NS.injEq] at e
       obtain⟨rfl,rfl⟩:=e
       exact d.lt l
     · exact h.small j c' e id l
 · intro id e
   rcases A with rfl | ⟨rfl,q⟩
   · exact List.mem_cons_self ..
   · exact absurd (q id) e
 · intro p s
   simp only[sw.next,K8,xI]
   cases Eo with
   | none=>exact s
   | some _=>exact ug _ s
theorem DI.Mb (h:DI P F0 S0 D E E' v ch):D.S.lim≤D.S.nx:=by
 have:=mD h.dp (Nat.zero_le D.i) (Nat.le_refl _)
 have h0:nn S0 E' 0=S0.nx:=rfl
 have:=h.Zr
 rw[h.lim,h.nx];omega
theorem DI.news (h:DI P F0 S0 D E E' v ch)(z:∀ id o,S0.get id=some o→id<S0.nx)(A:D.os=o::os){En En' : af}{vn:AV}{ids:List Nat}{nw:tH}{Eo:Option af}
   (s:nh P D.ops o D.F.get En vn En') (r:IE En En') (k:En.nx=D.S.nx) (d:En.lim=D.S.lim∨En.lim=D.S.nx)
   (f:∀ id ob,En.get id=some ob→D.S.get id=some ob∧∀ j,j<D.i→tb (al D.eH o.after.toList) j=false→ch j id=none)
   (n:∀ id ob,En.get id=some ob→En.lim≤id→id<En.nx→id∈ids) (p:∀ id,id∈ids→En.get id≠none→En.lim≤id)
   (t:∀ id,id∈ids→En.get id≠none→id<D.S.nx→rj (al D.eH o.after.toList) D.es id=true)
   (l:∀ id ob,(id,ob)∈nw→En.nx≤id∧En'.get id≠none∧ob=En'.get id)
   (u:Eo=some En∨(Eo=none∧∀ id,En.get id=none)) :
   ∃ E E' v ch,DI P F0 S0 (D.next o os (al D.eH o.after.toList) vn En'.nx (np En En' ids++nw) Eo) E E' v ch:=by
 have C:=h.Mb
 have g:∀ {id},pr (np En En' ids++nw) id=true→(id∈ids∧En.get id≠none)∨(En.nx≤id∧En'.get id≠none):=by
   intro id e
   rw[AT,Bool.or_eq_true] at e
   rcases e with e | e
   · obtain⟨ob,q⟩:=qF e
     obtain⟨a,b,_⟩:=AU q
     exact .inl ⟨a,b⟩
   · obtain⟨ob,q⟩:=qF e
     obtain⟨a,b,_⟩:=l id ob q
     exact .inr ⟨a,b⟩
 have m:∀ {id},En.get id≠none→id<En.nx:=by
   intro id e
   cases q:En.get id with
   | none=>exact absurd q e
   | some ob=>rw[k];exact h.wf z (f id ob q).1
 refine h.next A s k r.nx (by rcases d with e | e<;>omega) f ?_ ?_ ?_ ?_ u
 · intro id e w
   rcases g e with⟨a,b⟩ | ⟨a,_⟩
   · exact t id a b w
   · omega
 · refine yq.append (fun id ob q=>?_) fun id ob q=>?_
   · obtain⟨a,b,c⟩:=AU q
     refine⟨?_,fun x hx=>by rw[←c];exact hx⟩
     cases e:En.get id with
     | none=>exact absurd e b
     | some y=>exact af.dY e
   · obtain⟨a,b,c⟩:=l id ob q
     refine⟨?_,fun x hx=>by rw[←c];exact hx⟩
     cases e:En'.get id with
     | none=>exact absurd e b
     | some y=>exact af.dY e
 · intro id ob e B
   rw[AT,J0 (n id ob e B (m (by rw[e];simp))) (by rw[e];simp),Bool.true_or]
 · intro id e
   rcases g e with⟨a,b⟩ | ⟨a,b⟩
   · exact⟨p id a b,Nat.lt_of_lt_of_le (m b) r.nx,.inl b⟩
   · refine⟨by rcases d with q | q<;>omega,?_,.inr a⟩
     cases q:En'.get id with
     | none=>exact absurd q b
     | some y=>exact r.wf id y q
theorem FD (hi:Ok id):∀ {l:List Nat} {m:PT},(∀ k,k∈l→Ok k)→PT.get dep (jf m l) id=if id∈l then none else PT.get dep m id:=by
 intro l
 induction l with
 | nil=>intro m _;simp[jf]
 | cons k r g=>
   intro m f
   simp only[jf]
   rw[g fun a b=>f a (ug _ b)]
   by_cases d:id∈r
   · rw[if_pos d,if_pos (ug _ d)]
   · rw[if_neg d]
     by_cases e:k=id
     · subst e;rw[PT.bD,if_pos (List.mem_cons_self ..)]
     · rw[PT.au dep m k id _ (f k (List.mem_cons_self ..)) hi e,if_neg (by simp only[List.mem_cons,not_or];exact⟨fun q=>e q.symm,d⟩)]
theorem DI.aQ (h:DI P F0 S0 D E E' v ch){pi:Nat}{aQ:List Nat}(hh:hidden pi D.j9=some aQ) :
   (∀ k,k∈aQ→Ok k)∧(∀ id,id∉aQ→∀ j,j<D.i→tb pi j=false→ch j id=none)∧∀ nx lim id,(⟨nx,lim,jf D.S.m aQ⟩:af).get id=if id∈aQ then none else D.S.get id:=by
 obtain⟨f,g⟩:=HM hh
 have d:∀ k,k∈aQ→Ok k:=fun k l=>let ⟨j,c,a,b⟩:=g k l;h.small j c a k b
 refine⟨d,fun id n j p q=>?_,fun nx lim id=>?_⟩
 · cases e:ch j id with
   | none=>rfl
   | some r=>
     obtain⟨c,a,b⟩:=h.j9 j p id (by rw[e];simp)
     exact absurd (f j c a q id b) n
 · by_cases hi:Ok id
   · rw[af.bY hi]
     show PT.get dep (jf D.S.m aQ) id=_
     rw[FD hi d,af.bY hi]
   · rw[af.fY hi]
     split
     · rfl
     · exact(af.fY hi).symm
theorem DI.wide (h:DI P F0 S0 D E E' v ch)(A:∀ id o,S0.get id=some o→id<S0.nx)(C:D.os=o::os){aQ:List Nat}{d:af}{vn:AV}(hh:hidden (al D.eH o.after.toList) D.j9=some aQ)(H:yp (al D.eH o.after.toList) D.es=true)
   (w:nh P D.ops o D.F.get ⟨D.S.nx,D.S.lim,jf D.S.m aQ⟩ vn d) (n:IE ⟨D.S.nx,D.S.lim,jf D.S.m aQ⟩ d) :
   ∃ E E' v ch,DI P F0 S0 (D.LK o os ⟨D.S.nx,D.S.lim,jf D.S.m aQ⟩ (al D.eH o.after.toList) aQ vn d) E E' v ch:=by
 obtain⟨x,y,z⟩:=h.aQ hh
 generalize l:(⟨D.S.nx,D.S.lim,jf D.S.m aQ⟩:af)=En at *
 have k:En.nx=D.S.nx:=by rw[←l]
 have O:En.lim=D.S.lim:=by rw[←l]
 have t:∀ id,En.get id=if id∈aQ then none else D.S.get id:=fun id=>by rw[←l];exact z _ _ id
 have i:∀ {id ob},En.get id=some ob→id∉aQ∧D.S.get id=some ob:=by
   intro id ob e
   rw[t] at e
   split at e
   · simp at e
   · exact⟨by assumption,e⟩
 obtain⟨chn,g⟩:∃ f:Nat→Option (Option ak),f=fun id=>if id∉aQ∧D.S.lim≤id∧id<d.nx∧(En.get id≠none∨En.nx≤id) then some (d.get id) else none:=⟨_,rfl⟩
 have h1:∀ id,chn id≠none→id∉aQ∧D.S.lim≤id∧id<d.nx∧(En.get id≠none∨En.nx≤id):=by
   intro id e
   rw[g] at e
   by_cases q:id∉aQ∧D.S.lim≤id∧id<d.nx∧(En.get id≠none∨En.nx≤id)
   · exact q
   · exact absurd (if_neg q) e
 have h2:∀ id,(id∉aQ∧D.S.lim≤id∧id<d.nx∧(En.get id≠none∨En.nx≤id))→chn id=some (d.get id):=by intro id q;rw[g];exact if_pos q
 have h3:∀ id,¬ (id∉aQ∧D.S.lim≤id∧id<d.nx∧(En.get id≠none∨En.nx≤id))→chn id=none:=by intro id q;rw[g];exact if_neg q
 refine⟨_,_,_,_,h.step C (chn:=chn) (vn:=vn) rfl w k n.nx (by omega) ?_ ?_ ?_ ?_ ?_ ?_ rfl rfl rfl rfl rfl rfl rfl ?_ ?_ ?_ ?_ ?_ ?_⟩
 · intro id ob e
   obtain⟨a,b⟩:=i e
   exact⟨b,y id a⟩
 · intro j I J id _ _
   cases e:(E j).get id with
   | none=>rfl
   | some r=>
     have:=JZ H j _ (h.es j I id (by rw[e];simp))
     rw[J] at this;simp at this
 · intro id ob e
   rw[h2 id (h1 id (by rw[e];simp))] at e
   simpa using e
 · intro id ob e Q
   obtain⟨a,b⟩:=i e
   rw[h2 id ⟨a,by omega,Nat.lt_of_lt_of_le (by rw[k];exact h.wf A b) n.nx,.inl (by rw[e];simp)⟩]
   simp
 · intro id e
   obtain⟨_,a,b,_⟩:=h1 id e
   exact⟨by omega,b⟩
 · intro id e
   exact(h1 id e).2.2.2
 · intro id
   show(⟨d.nx,D.S.lim,vM D.S d.m aQ⟩:af).get id=_
   by_cases hi:Ok id
   · rw[af.bY hi]
     show PT.get dep (vM D.S d.m aQ) id=_
     rw[HL hi x]
     by_cases q:id∈aQ
     · rw[if_pos q,h3 id (fun c=>c.1 q)]
     · rw[if_neg q,←af.bY hi (s:=d)]
       have B:En.get id=D.S.get id:=by rw[t,if_neg q]
       by_cases c:id∉aQ∧D.S.lim≤id∧id<d.nx∧(En.get id≠none∨En.nx≤id)
       · rw[h2 id c]
       · rw[h3 id c]
         by_cases l1:id<D.S.lim
         · simp only[n.sM id (by omega),B]
         · by_cases l2:id<d.nx
           · have l3:En.get id=none∧id<En.nx:=by
              refine⟨?_,?_⟩
              · cases e:En.get id with
                | none=>rfl
                | some _=>exact absurd ⟨q,by omega,l2,.inl (by rw[e];simp)⟩ c
              · refine Nat.lt_of_not_le fun e=>c ⟨q,by omega,l2,.inr e⟩
             rw[n.dead id l3.2 l3.1,←B,l3.1]
           · have K:d.get id=none:=by
              cases e:d.get id with
              | none=>rfl
              | some o=>exact absurd (n.wf id o e) l2
             have L:D.S.get id=none:=by
              cases e:D.S.get id with
              | none=>rfl
              | some o=>exact absurd (Nat.lt_of_lt_of_le (h.wf A e) (by have:=n.nx;omega)) l2
             rw[K,L]
   · rw[af.fY hi]
     cases q:chn id with
     | none=>exact(af.fY hi).symm
     | some r=>
       have:=h2 id (h1 id (by rw[q];simp))
       rw[q] at this
       simp only[ar] at this
       subst this
       exact(af.fY hi).symm
 · intro id e
   obtain⟨_,a,b,_⟩:=h1 id e
   refine⟨.wide D.S.lim d.nx,List.mem_cons_self .., ?_⟩
   simp only[EM.has]
   rw[tn a]
   exact tn b
 · intro p u;exact ug _ u
 · intro j c M id N
   rcases List.mem_cons.1 M with e | e
   · simp at e
   · exact h.small j c e id N
 · intro id e;exact List.mem_cons_self ..
 · intro p u;exact ug _ u
end
end
end Go.Eng
namespace Go.Eng
noncomputable section
def cF (T:FT)(P:Program):Prop:=∀ f e,FT.look T f=some e→P.funcs[f]? = some e.fn∧e.fn.body=some e.body∧mJ P f=true ∧
 ∀ x,e.ext=some x→∀ args S v S', x args S=some (v,S')→dc P f args S fun r a=>r=.ret v∧a=S'
def GK (P:Program)(k:cI)(fn:Func)(Q:ic→de→af→Prop):ad→af→Prop:=
 match lR k with
 | some id=>fun F' S' => EY id F' S' fun r a=>Q r .run a
 | none=>match k with
   | .hole G=>G
   | _=>Fin P fn Q
def pz (P:Program)(D:sw)(k:cI)(Q:ic→de→af→Prop):Prop:=
 ∀ a S0,(∃ E h v j,DI P a S0 D E h v j)→Reach P a S0 (GK P k D.fn Q)
def fH (P:Program)(Qf:ic→af→Prop):cI→((ic→de→af→Prop)→Prop)→Prop
 | .nil,A=>A fun r _ S=>Qf r S
 | .hole _,A=>A fun _ _ _=>False
 | .call fn F o all rest td next,A=>fH P Qf next fun Q=>A fun r _ S=>Reach P (F.back o all rest td r) S (GK P next fn Q)
 | .qT fn F ds next,A=>fH P Qf next fun Q=>A fun r cm S=>Reach P { F with defers:=ds,mode:=iJ r cm } S (GK P next fn Q)
 | .loop fn F d l td next,A=>fH P Qf next fun Q=>A fun r _ S=>Reach P (F.og d l td r) S (GK P next fn Q)
 | .round fn F o all rest td _ next,A=>fH P Qf next fun Q=>A fun r _ S=>Reach P (F.back o all rest td r) S (GK P next fn Q)
 | .fE D o os E pi aQ _ next,A=>∃ v a,A (fun r _ S=>r=.ret v∧S=a)∧fH P Qf next fun Q=>pz P (D.jg o os E pi aQ v a) next Q
def aJ (P:Program)(Qf:ic→af→Prop):St→Prop
 | .run fn F S k=>fH P Qf k fun Q=>Reach P F S (GK P k fn Q)
 | .fE D k=>fH P Qf k fun Q=>pz P D k Q
 | .done r S=>Qf r S
 | .fork fn k l=>∀ F S,(F,S)∈l→fH P Qf k fun Q=>Reach P F S (GK P k fn Q)
 | .bad _=>False
section
variable {T : FT} {P : Program} {Qf : ic → af → Prop}
theorem fH.mono : ∀ {k:cI} {A j:(ic→de→af→Prop)→Prop},(∀ Q,A Q→j Q)→fH P Qf k A→fH P Qf k j:=by
 intro k
 induction k with
 | nil=>intro A j h q;exact h _ q
 | hole G=>intro A j h q;exact h _ q
 | call fn F o all rest td next m=>intro A j h q;exact m (fun Q=>h _) q
 | qT fn F ds next m=>intro A j h q;exact m (fun Q=>h _) q
 | loop fn F d l td next m=>intro A j h q;exact m (fun Q=>h _) q
 | round fn F o all rest td id next m=>intro A j h q;exact m (fun Q=>h _) q
 | fE D o os E pi aQ p next m=>intro A j h q;obtain⟨v,n,a,b⟩:=q;exact⟨v,n,h _ a,b⟩
variable {fn : Func} {F : ad} {S S' : af} {k : cI}
theorem aJ.reach {F' : ad}(h:∀ G,Reach P F' S' G→Reach P F S G)(q:aJ P Qf (.run fn F' S' k)):aJ P Qf (.run fn F S k):=fH.mono (fun _=>h _) q
variable {Q Q' : ic → de → af → Prop}
theorem GK.mono (h:∀ r cm S,Q r cm S→Q' r cm S)(q:GK P k fn Q F S):GK P k fn Q' F S:=by
 unfold GK at *
 cases p:lR k with
 | none=>
   rw[p] at q
   have key:∀ {Q Q' : ic→de→af→Prop},(∀ r cm S,Q r cm S→Q' r cm S)→Fin P fn Q F S→Fin P fn Q' F S:=by
     intro Q Q' h q
     obtain⟨a,b⟩:=q
     refine⟨a,?_⟩
     rcases b with⟨b,v,c,d⟩ | ⟨l,b,c⟩
     · exact .inl ⟨b,v,c,h _ _ _ d⟩
     · exact .inr ⟨l,b,h _ _ _ c⟩
   cases k with
   | hole G=>exact q
   | _=>exact key h q
 | some id=>
   rw[p] at q
   obtain⟨a,b⟩:=q
   refine⟨a,?_⟩
   rcases b with⟨b,st,j,f,n,mask,env,params,assign,body,c,d,e⟩ | ⟨l,b,c⟩
   · refine .inl ⟨b,st,j,f,n,mask,env,params,assign,body,c,d,?_⟩
     rcases e with⟨e,m⟩ | ⟨c', e,m⟩
     · exact .inl ⟨e,h _ _ _ m⟩
     · exact .inr ⟨c', e,h _ _ _ m⟩
   · exact .inr ⟨l,b,h _ _ _ c⟩
theorem Reach.cons (a:∀ r cm S,Q r cm S→Q' r cm S)(h:Reach P F S (GK P k fn Q)):Reach P F S (GK P k fn Q'):=
 h.mono fun _ _ q=>q.mono a
theorem fH.ends {p:ic→af→Prop}(t:∀ r S,Qf r S→p r S):∀ {k:cI} {A:(ic→de→af→Prop)→Prop},(∀ Q Q', (∀ r cm S,Q r cm S→Q' r cm S)→A Q→A Q')→fH P Qf k A→fH P p k A:=by
 intro k
 induction k with
 | nil=>intro A j h;exact j _ _ (fun r _ S q=>t r S q) h
 | hole G=>intro A j h;exact j _ _ (fun r _ S q=>q) h
 | call fn F o all rest td next m=>intro A j h;exact m (fun Q Q' n=>j _ _ fun r cm S q=>q.cons n) h
 | qT fn F ds next m=>intro A j h;exact m (fun Q Q' n=>j _ _ fun r cm S q=>q.cons n) h
 | loop fn F d l td next m=>intro A j h;exact m (fun Q Q' n=>j _ _ fun r cm S q=>q.cons n) h
 | round fn F o all rest td id next m=>intro A j h;exact m (fun Q Q' n=>j _ _ fun r cm S q=>q.cons n) h
 | fE D o os E pi aQ y next m=>
   intro A j h
   obtain⟨v,u,a,b⟩:=h
   exact⟨v,u,a,m (fun Q Q' n q w S0 x=>(q w S0 x).cons n) b⟩
theorem fH.all {ι:Type}:∀ {k:cI} {A:ι→(ic→de→af→Prop)→Prop},flat k=true→(∀ i,fH P Qf k (A i))→fH P Qf k fun Q=>∀ i,A i Q:=by
 intro k
 induction k with
 | nil=>intro A _ h;exact h
 | hole G=>intro A _ h;exact h
 | call fn F o all rest td next j=>intro A a h;exact j (A:=fun i Q=>A i _) a h
 | qT fn F ds next j=>intro A a h;exact j (A:=fun i Q=>A i _) a h
 | loop fn F d l td next j=>intro A a h;exact j (A:=fun i Q=>A i _) a h
 | round fn F o all rest td id next j=>intro A a h;exact j (A:=fun i Q=>A i _) a h
 | fE D o os E pi aQ m next j=>intro A a h;simp[flat] at a
variable {r : ic} {cm : de}
theorem AF (h:aJ P Qf (back r cm S k)):fH P Qf k fun Q=>Q r cm S:=by
 cases k with
 | nil=>exact h
 | hole G=>exact h.elim
 | call fn F o all rest td next=>
   simp only[back,AE] at h
   exact h
 | qT fn F ds next=>exact h
 | loop fn F d l td next=>exact h
 | round fn F o all rest td id next=>
   cases r with
   | ret v=>exact h.elim
   | uh l=>simp only[back,AE] at h;exact h
 | fE D o os E pi aQ a next=>
   cases a with
   | some id=>exact h.elim
   | none=>
     cases r with
     | uh l=>exact h.elim
     | ret v=>exact⟨v,S,⟨rfl,rfl⟩,h⟩
variable {id : Nat}
theorem Pc (h:lR k=some id):back r cm S k=back r .run S k:=by
 cases k with
 | nil=>simp[lR] at h
 | hole G=>simp[lR] at h
 | call fn F o all rest td next=>simp[lR] at h
 | qT fn F ds next=>simp[lR] at h
 | loop fn F d l td next=>simp[lR] at h
 | round fn F o all rest td id next=>cases r<;>rfl
 | fE D o os E pi aQ a next=>
   cases a with
   | none=>simp[lR] at h
   | some id=>rfl
variable {v : AV}
theorem MT (h:lR k=some id)(j:aJ P Qf (back (.ret v) cm S k)):False:=by
 cases k with
 | nil=>simp[lR] at h
 | hole G=>simp[lR] at h
 | call fn F o all rest td next=>simp[lR] at h
 | qT fn F ds next=>simp[lR] at h
 | loop fn F d l td next=>simp[lR] at h
 | round fn F o all rest td id next=>exact j
 | fE D o os E pi aQ a next=>
   cases a with
   | none=>simp[lR] at h
   | some id=>exact j
theorem GK.fin (a:lR k=none)(h:∀ G,k ≠ .hole G):GK P k fn Q=Fin P fn Q:=by
 unfold GK
 rw[a]
 cases k with
 | hole G=>exact absurd rfl (h G)
 | _=>rfl
theorem MU {m:de}(j:F.mode=m)(n:F.defers=[])(h:aJ P Qf (N3 P fn F S k m)):aJ P Qf (.run fn F S k):=by
 cases m with
 | run=>exact h.elim
 | returning=>
   simp only[N3,Zp] at h
   cases p:sR P fn F S with
   | none=>rw[p] at h;exact h.elim
   | some v=>
     rw[p] at h
     cases a:lR k with
     | some id=>exact(MT a h).elim
     | none=>
       have t:∀ G,k ≠ .hole G:=by rintro G rfl;exact h.elim
       refine fH.mono (fun Q q=>Reach.done ?_) (AF h)
       rw[GK.fin a t]
       exact⟨n,.inl ⟨j,v,p,q⟩⟩
 | panicking l=>
   simp only[N3] at h
   cases a:lR k with
   | none=>
     have t:∀ G,k ≠ .hole G:=by rintro G rfl;exact h.elim
     refine fH.mono (fun Q q=>Reach.done ?_) (AF h)
     rw[GK.fin a t]
     exact⟨n,.inr ⟨l,j,q⟩⟩
   | some id=>
     rw[Pc a] at h
     refine fH.mono (fun Q q=>Reach.done ?_) (AF h)
     simp only[GK,a]
     exact⟨n,.inr ⟨l,j,q⟩⟩
theorem FE (n:cF T P)(m:F.mode ≠ .run){ds:List gx}(a:F.defers=ds)(h:aJ P Qf (N4 T P fn F S k ds)):aJ P Qf (.run fn F S k):=by
 cases ds with
 | nil=>exact MU rfl a h
 | cons d ds=>
   cases d with
   | call f cap args=>
     simp only[N4,Zq] at h
     cases j:FT.look T f with
     | none=>rw[j] at h;exact h.elim
     | some e=>
       rw[j] at h
       obtain⟨t1,t2,_,_⟩:=n f e j
       refine fH.mono (fun Q q=>?_) h
       exact Reach.unwind (Q:=fun r cm S' => Reach P { F with defers:=ds,mode:=iJ r cm } S' (GK P k fn Q)) m a (abN.oO e.mask t1 t2 q) fun r cm S' q=>q
   | mf id=>
     simp only[N4,Qj] at h
     split at h
     · rename_i p t
       exact aJ.reach (fun G q=>Reach.mf m a p (eL t) q) h
     · exact h.elim
   | sI bs=>exact h.elim
variable {op : Op} {c : Call}
theorem yQ (h:hU op=some c):op=.call c∧∀ b,c.callee ≠ .builtin b:=by
 cases op with
 | call c' =>
   simp only[hU] at h
   split at h<;>simp only[ar,reduceCtorEq] at h
   rename_i a
   subst h
   exact⟨rfl,a⟩
 | _=>simp[hU] at h
theorem gL (h:hU op=some c):bT op=false:=by
 obtain⟨rfl,a⟩:=yQ h
 simp only[bT]
 split
 · rename_i e;exact absurd e (a _)
 · rfl
variable {g : Nat} {e : xE} {args : List AV}
theorem mM (u:cF T P)(x:hU op=some c)(h:re T F c P=some (g,e,args)) :
   FT.look T g=some e∧∀ S,gi P F.eval S op=some (.call g args):=by
 obtain⟨rfl,z⟩:=yQ x
 unfold re at h
 split at h<;>try (simp at h;done)
 rename_i as has
 split at h
 · rename_i f n
   split at h<;>try (simp at h;done)
   rotate_left
   · rename_i y _ j
     split at h<;>try (simp at h;done)
     rename_i g' l p
     split at h<;>simp only[ar,iy,reduceCtorEq] at h
     rename_i w a
     obtain⟨rfl,rfl,rfl⟩:=h
     refine⟨a,fun S=>?_⟩
     obtain⟨m,t,v,first,cap,rfl,A,B,rfl⟩:=yH p
     simp only[gi,uv,has,n,j,p]
   rename_i g' first cap j
   split at h<;>simp only[ar,iy,reduceCtorEq] at h
   rename_i w a
   obtain⟨rfl,rfl,rfl⟩:=h
   exact⟨a,fun S=>by simp only[gi,uv,has,n,j,(u _ _ a).2.2.1]⟩
 · rename_i r m n
   split at h<;>try (simp at h;done)
   rename_i t v q
   split at h<;>try (simp at h;done)
   rename_i g' b p
   split at h<;>simp only[ar,iy,reduceCtorEq] at h
   rename_i w a
   obtain⟨rfl,rfl,rfl⟩:=h
   exact⟨a,fun S=>by simp only[gi,uv,has,n,q,p,(u _ _ a).2.2.1]⟩
 · simp at h
section
variable {fn : Func} {F : ad} {S : af} {k : cI} {all : Array Oper} {i : Nat} {rest : List Nat} {td : List aC} {o : Oper}
variable {G : ad → af → Prop} {l : List (AV × af)}
theorem Reach.IV (K:F.mode=.run)(L:F.todo=.ops all (i::rest)::td)(H:all[i]? = some o)(M:rP F all o=some true)(q:bT o.op=false)(j:Fq F S o.op=some l)(h:∀ v S', (v,S')∈l→Reach P (F.after o v all rest td) S' G):Reach P F S G:=by
 unfold Fq at j
 split at j<;>try (simp at j;done)
 rename_i N p
 split at j<;>try (simp at j;done)
 rename_i a O
 intro g w fr u cs n x hi
 obtain⟨m,I,R⟩:=n.split L
 obtain⟨r,S', z,w', U,V,W,X,Y⟩:=Gc (P:=P) (t:=o.type) hi j (EL.of n N a O)
 have y:(execOp fr.eval o).run P w=.ok (.value z) w' := by
  obtain⟨dst,op,ty,pos,after,guard⟩:=o
  simp only at p
  subst p
  simp[execOp,V]
 obtain⟨J,Z,x3,x4⟩:=F.iq o r all rest td
 have A:=w4 (P:=P) (cs:=cs) (gp (n.runs K) I H (kL n M) (.inr q)) y
 obtain⟨F2,S2,g2,w2,B,C,q', r1,r2,r3,r4,r5,r6,r7,r8⟩:=h r S' U g w' (fr.finish z) u cs ((n.after I R H W)) (x.congr J x4) X
 exact⟨F2,S2,g2,w2,B,C,q', r1,r2,r3.trans J,r4.trans Z,r5.trans x3,r6,Y.trans r7,Steps.head A r8⟩
theorem J1 (h:(v,S')∈l):(mK F o v all rest td,S')∈LP F o all rest td l:=by
 induction l with
 | nil=>simp at h
 | cons p r j=>
   obtain⟨a,b⟩:=p
   rcases List.mem_cons.1 h with e | h
   · simp only[iy] at e;obtain⟨rfl,rfl⟩:=e;exact List.mem_cons_self ..
   · exact ug _ (j h)
theorem J2 (u:F.mode=.run)(w:F.todo=.ops all (i::rest)::td)(x:all[i]? = some o)(y:rP F all o=some true)(t:bT o.op=false)
   (h:aJ P Qf (LQ fn F k o all rest td (Fq F S o.op))):aJ P Qf (.run fn F S k):=by
 cases n:Fq F S o.op with
 | none=>rw[n] at h;exact h.elim
 | some l=>
   rw[n] at h
   have a:aJ P Qf (L9 fn F k o all rest td l (flat k))→aJ P Qf (.run fn F S k):=by
     intro h
     cases m:flat k with
     | false=>rw[m] at h;exact h.elim
     | true=>
       rw[m] at h
       have:=fH.all (ι:={ p:AV×af // p∈l }) (A:=fun p Q=>Reach P (F.after o p.1.1 all rest td) p.1.2 (GK P k fn Q)) m fun p=>by
        have:=h _ _ (J1 (F:=F) (o:=o) (all:=all) (rest:=rest) (td:=td) p.2)
        rw[gU] at this
        exact this
       exact fH.mono (fun Q q=>Reach.IV u w x y t n fun v S' j=>q ⟨(v,S'),j⟩) this
   match l,a,h,n with
   | [],a,h,_=>exact a h
   | [(v,S')],_,h,n=>
     simp only[LQ,gU] at h
     refine aJ.reach (fun G q=>Reach.IV u w x y t n fun B z j=>?_) h
     simp only[List.mem_singleton,iy] at j
     obtain⟨rfl,rfl⟩:=j
     exact q
   | _::_::_,a,h,_=>exact a h
theorem MV (y:cF T P)(j:F.mode=.run)(m:F.todo=.ops all (i::rest)::td)(p:all[i]? = some o)(t:rP F all o=some true)(a:bT o.op=false){r:Option cY}(u:gi P F.eval S o.op=r)
   (h:aJ P Qf (K9 T fn F S k o all rest td r)):aJ P Qf (.run fn F S k):=by
 cases r with
 | none=>exact J2 j m p t a h
 | some r=>
   cases r with
   | val v S' =>
     simp only[K9,gU] at h
     exact aJ.reach (fun G q=>Reach.Hf j m p t a u q) h
   | skip S' =>
     simp only[K9,gU] at h
     exact aJ.reach (fun G q=>Reach.IP j m p t a u q) h
   | uh v=>exact aJ.reach (fun G q=>Reach.Xn j m p t a u q) h
   | pq id args=>
     simp only[K9,Qh] at h
     split at h
     · rename_i st x f n mask env params assign body w
       simp only[Zl] at h
       split at h
       · rename_i e z A
         obtain⟨t1,_⟩:=y f e z
         refine fH.mono (fun Q q=>?_) h
         exact Reach.Xr j m p t a u w (jK A) t1 q
       · exact h.elim
     · exact h.elim
   | call f args=>exact h.elim
   | qT f cap args=>exact h.elim
   | Yg=>exact h.elim
theorem J3 (m:F.mode=.run)(n:F.todo=.ops all (i::rest)::td)(t:all[i]? = some o)(u:rP F all o=some true){r:Option cY}(w:gi P F.eval S o.op=r)
   (h:aJ P Qf (ID fn F S k o all rest td F.round r)):aJ P Qf (.run fn F S k):=by
 cases j:F.round with
 | some id=>rw[j] at h;cases r with
   | none=>exact h.elim
   | some r=>cases r<;>exact h.elim
 | none=>
   rw[j] at h
   cases r with
   | none=>exact h.elim
   | some r=>
     cases r with
     | qT f cap args=>
       simp only[ID,gU] at h
       exact aJ.reach (fun G q=>Reach.Xo m n t u j w q) h
     | Yg=>
       simp only[ID] at h
       split at h
       · rename_i x
         cases a:sV F.cm with
         | none=>
           rw[a] at h
           simp only[Q1,gU] at h
           exact aJ.reach (fun G q=>Reach.L6 m n t u x j w (by rw[a];exact q)) h
         | some p=>
           obtain⟨v,cm⟩:=p
           rw[a] at h
           simp only[Q1,gU] at h
           exact aJ.reach (fun G q=>Reach.L6 m n t u x j w (by rw[a];exact q)) h
       · exact h.elim
     | _=>exact h.elim
variable {b : Bool}
theorem IW (q:cF T P)(j:F.mode=.run)(m:F.todo=.ops all (i::rest)::td)(n:all[i]? = some o)(p:rP F all o=some true)(a:bT o.op=b)(h:aJ P Qf (YJ T P fn F S k o all rest td b)):aJ P Qf (.run fn F S k):=by
 cases b with
 | false=>simp only[YJ,mE] at h;exact MV q j m n p a rfl h
 | true=>simp only[YJ,mE] at h;exact J3 j m n p rfl h
theorem MW (u:cF T P)(n:F.mode=.run)(t:F.todo=.ops all (i::rest)::td)(h:aJ P Qf (Q3 T P fn F S k all rest td (Jt all i))):aJ P Qf (.run fn F S k):=by
 rw[wP] at h
 cases j:all[i]? with
 | none=>rw[j] at h;exact h.elim
 | some o=>
   rw[j] at h
   simp only[Q3] at h
   cases m:rP F all o with
   | none=>rw[m] at h;exact h.elim
   | some b=>
     rw[m] at h
     cases b with
     | false=>
       simp only[Hl,gU] at h
       exact aJ.reach (fun G q=>Reach.AA n t j m q) h
     | true=>
       simp only[Hl] at h
       cases w:hU o.op with
       | none=>rw[w] at h;exact IW u n t j m rfl h
       | some c=>
         rw[w] at h
         have a:=gL w
         simp only[Zn] at h
         cases y:re T F c P with
         | none=>rw[y] at h;exact IW u n t j m a h
         | some p=>
           obtain⟨g,e,args⟩:=p
           rw[y] at h
           obtain⟨B,z⟩:=mM u w y
           obtain⟨t1,t2,t3,t4⟩:=u g e B
           simp only[Qi] at h
           cases hx:e.ext with
           | none=>
             rw[hx] at h
             refine fH.mono (fun Q q=>?_) h
             exact Reach.zS (Q:=fun r S' => Reach P (F.back o all rest td r) S' (GK P k fn Q)) n t j m a (z S) (dc.oO e.mask t1 t2 q) fun r S' q=>q
           | some x=>
             rw[hx] at h
             simp only[Ma] at h
             cases A:x args S with
             | none=>
               rw[A] at h
               refine fH.mono (fun Q q=>?_) h
               exact Reach.zS (Q:=fun r S' => Reach P (F.back o all rest td r) S' (GK P k fn Q)) n t j m a (z S) (dc.oO e.mask t1 t2 q) fun r S' q=>q
             | some p=>
               obtain⟨v,S'⟩:=p
               rw[A] at h
               simp only[Zm,gU] at h
               refine aJ.reach (fun G q=>Reach.zS n t j m a (z S) (t4 x hx args S v S' A) fun r H C=>?_) h
               obtain⟨rfl,rfl⟩:=C
               exact q
end
theorem J4 (h:aJ P Qf (Fp S k v)):fH P Qf k fun Q=>Q (.ret v) .run S:=by
 cases k with
 | round fn F o all rest td id next=>simp only[Fp,AE] at h;exact h
 | fE D o os E pi aQ a next=>
   cases a with
   | none=>exact h.elim
   | some id=>exact⟨v,S,⟨rfl,rfl⟩,h⟩
 | _=>exact h.elim
theorem MX (x:F.mode=.run)(h:aJ P Qf (LN F S k (lR k))):aJ P Qf (.run fn F S k):=by
 cases t:lR k with
 | none=>rw[t] at h;exact h.elim
 | some id=>
   rw[t] at h
   simp only[LN,Zk] at h
   split at h
   · rename_i st m f n mask env params assign body y z p
     have p:=eL p
     have fin:∀(v:AV) (u:af),(∀ Q:ic→de→af→Prop,Q (.ret v) .run u→EY id F S fun r w=>Q r .run w)→aJ P Qf (Fp u k v)→aJ P Qf (.run fn F S k):=by
       intro v u A B
       refine fH.mono (fun Q q=>Reach.done ?_) (J4 B)
       simp only[GK,t]
       exact A Q q
     cases j:F.todo with
     | nil=>
       rw[j] at h
       exact fin _ _ (fun Q q=>⟨y,.inl ⟨x,st,m,f,n,mask,env,params,assign,body,z,p,.inl ⟨j,q⟩⟩⟩) h
     | cons C r=>
       rw[j] at h
       cases a:yo (C::r) with
       | none=>rw[a] at h;exact h.elim
       | some c=>
         rw[a] at h
         exact fin _ _ (fun Q q=>⟨y,.inl ⟨x,st,m,f,n,mask,env,params,assign,body,z,p,.inr ⟨c,by rw[j];exact a,q⟩⟩⟩) h
   · exact h.elim
variable {td : List aC}
theorem Pd (m:cF T P)(n:F.mode=.run){f:Operand}{params:Array Tmp}{assign body:Code}(p:F.todo=.code (.rangeFunc f params assign body)::td)(h:aJ P Qf (acB T fn F S k params assign body td F.round (F.eval f))):aJ P Qf (.run fn F S k):=by
 cases a:F.round with
 | some id=>rw[a] at h;exact h.elim
 | none=>
   rw[a] at h
   cases j:F.eval f with
   | none=>rw[j] at h;exact h.elim
   | some v=>
     rw[j] at h
     cases v with
     | fn g first cap=>
       cases g with
       | func g=>
         simp only[acB] at h
         split at h
         · rename_i e t h1 h2
           obtain⟨t1,t2,t3,_⟩:=m g e t
           have h1:=eL h1
           refine fH.mono (fun Q q=>?_) h
           exact Reach.rangeFunc (Q:=fun r S' => Reach P (F.og S.nx (S.nx+1) td r) S' (GK P k fn Q)) n p a j t3 (by omega) (eL h2) (dc.oO e.mask t1 t2 q) fun r S' q=>q
         · exact h.elim
       | _=>exact h.elim
     | _=>exact h.elim
variable {G : ad → af → Prop}
theorem Reach.inst (h:∀ g w fr,mW P g F fr→Inv S g w→Reach P F S G):Reach P F S G:=
 fun g w fr j cs a b c=>h g w fr a c g w fr j cs a b c
theorem MY (a:F.mode=.run){all:Array Oper}(j:F.todo=.code (.region id all true)::td)(h:aJ P Qf (Q0 T fn F S k id all td)):aJ P Qf (.run fn F S k):=by
 simp only[Q0] at h
 cases h1:CE all with
 | false=>rw[h1] at h;exact h.elim
 | true=>
   cases h2:Nat.ble S.lim S.nx with
   | false=>rw[h1,h2] at h;exact h.elim
   | true=>
     rw[h1,h2] at h
     refine fH.mono (fun Q q=>?_) h
     exact q F S ⟨_,_,_,_,DI.start h1 (eL h2) a j rfl rfl rfl rfl rfl rfl⟩
theorem J5 (u:cF T P)(a:F.mode=.run){l:List aC}(m:F.todo=l)(h:aJ P Qf (LO T fn F S k l)):aJ P Qf (.run fn F S k):=by
 unfold LO at h
 split at h
 · exact Pd u a m h
 · exact MY a m h
 · rename_i id td
   unfold Zi at h
   split at h
   · rename_i st j f n mask env params assign body p
     split at h
     · rename_i h1 h2
       exact aJ.reach (fun G q=>Reach.nj a m p h1 (eL h2) q) h
     · exact h.elim
   · exact h.elim
 · rename_i td
   cases t:F.round with
   | none=>rw[t] at h;exact h.elim
   | some id=>
     rw[t] at h
     simp only[Qg,Zj] at h
     split at h
     · rename_i j f n mask env params assign body p
       split at h
       · rename_i h2
         exact aJ.reach (fun G q=>Reach.GS a m t p (eL h2) q) h
       · exact h.elim
     · exact h.elim
 · exact MX a h
theorem Pe (m:cF T P)(h:aJ P Qf (acC T P fn F S k F.mode)):aJ P Qf (.run fn F S k):=by
 cases j:F.mode with
 | run=>
   rw[j] at h
   simp only[acC] at h
   have Yh:aJ P Qf (Zo T fn F S k (Js F F.todo))→aJ P Qf (.run fn F S k):=by
     intro h
     cases n:Js F F.todo with
     | some F' =>
       rw[n] at h
       rw[IS j] at n
       exact aJ.reach (fun G q=>Reach.Yh n (HH 10 q)) h
     | none=>rw[n] at h;exact J5 m j rfl h
   cases a:F.todo with
   | nil=>rw[a] at h;exact Yh (by rw[a];exact h)
   | cons p r=>
     rw[a] at h
     cases p with
     | ops all l=>
       cases l with
       | nil=>exact Yh (by rw[a];exact h)
       | cons i rest=>exact MW m j a h
     | _=>exact Yh (by rw[a];exact h)
 | returning=>rw[j] at h;exact FE m (by rw[j];simp) rfl h
 | panicking l=>rw[j] at h;exact FE m (by rw[j];simp) rfl h
theorem pz.step {D n:sw}{o:Oper}{os:List Oper}(x:pz P n k Q)(y:D.os=o::os)(p:n.fn=D.fn)(h:∀ a S0 E j v m,DI P a S0 D E j v m→(∀ id o,S0.get id=some o→id<S0.nx) →
  (∀ En vn En', nh P D.ops o D.F.get En vn En' → En.nx=D.S.nx→(∀ id ob,En.get id=some ob→D.S.get id=some ob)→IE En En')→∃ E j v m,DI P a S0 n E j v m):pz P D k Q:=by
 intro a S0 ⟨E,j,v,m,u⟩
 refine Reach.inst fun g w fr z hi=>?_
 rw[←p]
 exact x a S0 (h a S0 E j v m u (fun id o e=>hi.jy e) fun En vn En' q A t=>u.facts z hi y q A t)
section
variable {D : sw} {k : cI} {o : Oper} {os : List Oper}
theorem C0 (n:D.os=o::os)(t:rP D.F D.ops o=some false)(h:aJ P Qf (.fE (D.next o os (al D.eH o.after.toList) (.bm []) D.S.nx [] none) k)):aJ P Qf (.fE D k):=by
 refine fH.mono (fun Q q=>?_) h
 refine pz.step q n rfl (fun u S0 E w v x p y z=>?_)
 have a:∀ id,(⟨D.S.nx,D.S.nx,.nil⟩:af).get id=none:=by
  intro id
  by_cases h:Ok id
  · rw[af.bY h];exact PT.get_nil _ _
  · exact af.fY h
 have j:∀ {id ob},(⟨D.S.nx,D.S.nx,.nil⟩:af).get id=some ob→False:=by intro id ob e;rw[a] at e;simp at e
 have m:nh P D.ops o D.F.get ⟨D.S.nx,D.S.nx,.nil⟩ (.bm []) ⟨D.S.nx,D.S.nx,.nil⟩:=nh.AA t
 exact p.next n (En:=⟨D.S.nx,D.S.nx,.nil⟩) (En' := ⟨D.S.nx,D.S.nx,.nil⟩) m rfl (Nat.le_refl _) p.Mb (fun id ob e=>(j e).elim) (fun id e=>by simp[pr] at e) (fun id ob e=>by simp at e) (fun id ob e=>(j e).elim)
  (fun id e=>by simp[pr] at e) (.inr ⟨rfl,a⟩)
variable {E : af} {s : St}
theorem uy (C:D.os=o::os)(H:rP D.F D.ops o=some true)(n:bT o.op=false){ids:List Nat}{xI:Option af}(h:ui D o os (al D.eH o.after.toList) k E ids xI (gi P D.F.eval E o.op)=some s)(p:E.nx=D.S.nx)(u:E.lim=D.S.lim∨E.lim=D.S.nx)(m:∀ id ob,E.get id=some ob→D.S.get id=some ob∧iU (al D.eH o.after.toList) D.j9 id=true)(w:∀ id ob,E.get id=some ob→E.lim≤id→id<E.nx→id∈ids)(x:∀ id,id∈ids→E.lim≤id)(A:∀ id,id∈ids→id<D.S.nx→rj (al D.eH o.after.toList) D.es id=true)(B:xI=some E∨(xI=none∧∀ id,E.get id=none))(y:aJ P Qf s):aJ P Qf (.fE D k):=by
 have I:∀(v:AV) (j:af),nh P D.ops o D.F.get E v j→aJ P Qf (.fE (D.next o os (al D.eH o.after.toList) v j.nx (np E j ids++sC j E.nx (j.nx-E.nx)) xI) k)→aJ P Qf (.fE D k):=by
   intro v j t y
   refine fH.mono (fun Q q=>?_) y
   refine pz.step q C rfl (fun O S0 E0 N v0 R J K L=>?_)
   have M:=L E v j t p fun id ob e=>(m id ob e).1
   exact J.news K C t M p u (fun id ob e=>⟨(m id ob e).1,J.clear (m id ob e).2⟩) w (fun id a _=>x id a) (fun id a _=>A id a) (fun id ob e=>by
     obtain⟨a,_,b,c⟩:=vV e;exact⟨a,b,c⟩) B
 cases z:gi P D.F.eval E o.op with
 | none=>rw[z] at h;simp[ui] at h
 | some r=>
   rw[z] at h
   cases r with
   | val v j=>
     simp only[ui,ar] at h
     subst h
     exact I v j (nh.val H n z) y
   | skip j=>
     simp only[ui,ar] at h
     subst h
     exact I _ j (nh.skip H n z) y
   | _=>simp[ui] at h
variable {lim : Nat}
theorem oB : ∀ {l:List Nat},id∈nq lim l↔id∈l∧lim≤id:=by
 intro l
 induction l with
 | nil=>simp[nq]
 | cons a r j=>
   simp only[nq]
   split
   · rename_i h
     have h:=eL h
     rw[List.mem_cons,j,List.mem_cons]
     constructor
     · rintro(rfl | ⟨x,y⟩)
       · exact⟨.inl rfl,h⟩
       · exact⟨.inr x,y⟩
     · rintro⟨rfl | x,y⟩
       · exact .inl rfl
       · exact .inr ⟨x,y⟩
   · rename_i h
     have h:¬ lim≤a:=fun e=>by rw[tn e] at h;simp at h
     rw[j,List.mem_cons]
     constructor
     · rintro⟨x,y⟩;exact⟨.inr x,y⟩
     · rintro⟨rfl | x,y⟩
       · exact absurd y h
       · exact⟨x,y⟩
theorem wR (nx lim id:Nat):(⟨nx,lim,.nil⟩:af).get id=none:=by
 by_cases h:Ok id
 · rw[af.bY h];exact PT.get_nil _ _
 · exact af.fY h
theorem Pf (p:D.os=o::os)(h:aJ P Qf (acA P D o os (al D.eH o.after.toList) k (rP D.F D.ops o))):aJ P Qf (.fE D k):=by
 cases n:rP D.F D.ops o with
 | none=>rw[n] at h;exact h.elim
 | some b=>
   rw[n] at h
   cases b with
   | false=>exact C0 p n h
   | true=>
     simp only[acA] at h
     cases j:bT o.op with
     | true=>rw[j] at h;exact h.elim
     | false=>
       rw[j] at h
       simp only[Zg,mE] at h
       cases h0:ui D o os (al D.eH o.after.toList) k ⟨D.S.nx,D.S.nx,.nil⟩ [] none (gi P D.F.eval ⟨D.S.nx,D.S.nx,.nil⟩ o.op) with
       | some s=>
         rw[h0] at h
         exact uy p n j h0 rfl (.inr rfl) (fun id ob e=>by rw[wR] at e;simp at e) (fun id ob e=>by rw[wR] at e;simp at e) (fun id e=>by simp at e) (fun id e=>by simp at e) (.inr ⟨rfl,fun id=>wR _ _ id⟩) h
       | none=>
         rw[h0] at h
         simp only[Zf,Ze,Zd,mE] at h
         have a:∀ {nx lim id ob},(⟨nx,lim,seen D.S (al D.eH o.after.toList) D.j9 (hZ D.F (iA o.op)) .nil⟩:af).get id=some ob→id∈hZ D.F (iA o.op)∧D.S.get id=some ob∧iU (al D.eH o.after.toList) D.j9 id=true:=by
           intro nx lim id ob e
           have hi:=af.dY e
           rw[af.bY hi] at e
           rcases w7 hi e with q | q
           · rw[PT.get_nil] at q;simp at q
           · exact q
         generalize x:seen D.S (al D.eH o.after.toList) D.j9 (hZ D.F (iA o.op)) .nil=m at *
         cases h1:ui D o os (al D.eH o.after.toList) k ⟨D.S.nx,D.S.nx,m⟩ [] (some ⟨D.S.nx,D.S.nx,m⟩) (gi P D.F.eval ⟨D.S.nx,D.S.nx,m⟩ o.op) with
         | some s=>
           rw[h1] at h
           refine uy p n j h1 rfl (.inr rfl) (fun id ob e=>(a e).2) (fun id ob e h1 h2=>?_) (fun id e=>by simp at e) (fun id e=>by simp at e) (.inl rfl) h
           exact absurd h2 (Nat.not_lt.2 h1)
         | none=>
           rw[h1] at h
           simp only[Qd] at h
           cases t:jS (al D.eH o.after.toList) D.es D.S.nx (nq D.S.lim (hZ D.F (iA o.op))) with
           | false=>rw[t] at h;exact h.elim
           | true=>
             rw[t] at h
             simp only[Zc,mE] at h
             cases h2:ui D o os (al D.eH o.after.toList) k ⟨D.S.nx,D.S.lim,m⟩ (nq D.S.lim (hZ D.F (iA o.op))) (some ⟨D.S.nx,D.S.lim,m⟩) (gi P D.F.eval ⟨D.S.nx,D.S.lim,m⟩ o.op) with
             | none=>rw[h2] at h;exact h.elim
             | some s=>
               rw[h2] at h
               exact uy p n j h2 rfl (.inl rfl) (fun id ob e=>(a e).2) (fun id ob e w _=>oB.2 ⟨(a e).1,w⟩) (fun id e=>(oB.1 e).2) (fun id e u=>pk t id e u) (.inl rfl) h
theorem AW (E:af)(pi:Nat)(v:AV)(S:af):D.jg o os E pi .quiet v S=D.next o os pi v S.nx (ja S E.nx py [v] []) (some E):=rfl
theorem MZ (E:af)(pi:Nat)(ids:List Nat)(v:AV)(S:af):D.jg o os E pi (.sep ids) v S=D.next o os pi v S.nx (np E S ids++ja S E.nx py (v::kids S ids) []) (some E):=rfl
theorem C1 (E:af)(pi:Nat)(aQ:List Nat)(v:AV)(S:af):D.jg o os E pi (.wide aQ) v S=D.LK o os E pi aQ v S:=rfl
theorem wS (E:af)(pi:Nat)(m:DM)(v:AV)(S:af):(D.jg o os E pi m v S).fn=D.fn:=by cases m<;>rfl
variable {pi : Nat}
theorem vW (n:cF T P)(q:FT.look T g=some e){aQ:DM}(h:aJ P Qf (xU g e args E (.fE D o os E pi aQ none k))) :
   ∃ v j,dc P g args E (fun r S=>r=.ret v∧S=j)∧fH P Qf k fun Q=>pz P (D.jg o os E pi aQ v j) k Q:=by
 obtain⟨t1,t2,t3,t4⟩:=n g e q
 unfold xU at h
 cases hx:e.ext with
 | none=>
   rw[hx] at h
   obtain⟨v,j,a,b⟩:=h
   exact⟨v,j,dc.oO e.mask t1 t2 a,b⟩
 | some x=>
   rw[hx] at h
   simp only at h
   cases m:x args E with
   | none=>
     rw[m] at h
     obtain⟨v,j,a,b⟩:=h
     exact⟨v,j,dc.oO e.mask t1 t2 a,b⟩
   | some p=>
     obtain⟨v,S'⟩:=p
     rw[m] at h
     exact⟨v,S', t4 x hx args E v S' m,h⟩
theorem HN {j9:List (Nat×EM)}{ob:Option ak}:∀ {c:tH},(id,ob)∈xT pi j9 c→(id,ob)∈c∧iU pi j9 id=true:=by
 intro c
 induction c with
 | nil=>intro h;simp[xT] at h
 | cons p r j=>
   obtain⟨k,x⟩:=p
   intro h
   simp only[xT] at h
   split at h
   · rename_i m
     rcases List.mem_cons.1 h with e | h
     · simp only[iy] at e;obtain⟨rfl,rfl⟩:=e;exact⟨List.mem_cons_self .., m⟩
     · obtain⟨a,b⟩:=j h;exact⟨ug _ a,b⟩
   · obtain⟨a,b⟩:=j h;exact⟨ug _ a,b⟩
theorem C2 : ∀ {c:tH},id∈vh lim c↔pr c id=true∧lim≤id:=by
 intro c
 induction c with
 | nil=>simp[vh,pr]
 | cons p r a=>
   obtain⟨k,x⟩:=p
   simp only[vh,pr]
   cases j:Nat.beq k id with
   | true=>
     have:k=id:=jK j
     subst this
     split
     · rename_i h;have h:=eL h;simp[h]
     · rename_i h
       have h:¬ lim≤k:=fun e=>by rw[tn e] at h;simp at h
       rw[a];simp[h]
   | false=>
     have m:id≠k:=by rintro rfl;rw[Nat.beq_refl] at j;simp at j
     split
     · rw[List.mem_cons,a];simp[m]
     · exact a
variable {b : Bool} {aQ : List Nat}
theorem HO (t:cF T P)(n:D.os=o::os)(u:rP D.F D.ops o=some true)(j:bT o.op=false)(w:FT.look T g=some e)(x:∀ S,gi P D.F.eval S o.op=some (.call g args))(hh:hidden (al D.eH o.after.toList) D.j9=some aQ)(y:yp (al D.eH o.after.toList) D.es=b)(h:aJ P Qf (Hj D o os (al D.eH o.after.toList) k g e args aQ b)):aJ P Qf (.fE D k):=by
 cases b with
 | false=>exact h.elim
 | true=>
   simp only[Hj] at h
   obtain⟨v,z,A,B⟩:=vW t w h
   refine fH.mono (fun Q q=>?_) B
   refine pz.step q n (wS ..) (fun J S0 E0 I v0 K p C H=>?_)
   have a:nh P D.ops o D.F.get ⟨D.S.nx,D.S.lim,jf D.S.m aQ⟩ v z:=nh.call u j (x _) A
   rw[C1]
   exact p.wide C n hh y a (H _ _ _ a rfl fun id ob e=>by
    rw[(p.aQ hh).2.2] at e
    split at e
    · simp at e
    · exact e)
theorem HP (H:cF T P)(B:D.os=o::os)(I:rP D.F D.ops o=some true)(x:bT o.op=false)(J:FT.look T g=some e)(K:∀ S,gi P D.F.eval S o.op=some (.call g args)){c:tH}(L:jS (al D.eH o.after.toList) D.es D.S.nx (vh D.S.lim c)=b)(j:∀ id ob,(id,ob)∈c→D.S.get id≠none∧ob=D.S.get id∧iU (al D.eH o.after.toList) D.j9 id=true)(h:aJ P Qf (Hi D o os (al D.eH o.after.toList) k g e args c (vh D.S.lim c) b)):aJ P Qf (.fE D k):=by
 cases b with
 | false=>exact h.elim
 | true=>
   simp only[Hi] at h
   obtain⟨v,w,M,N⟩:=vW H J h
   have n:∀ id ob,(id,ob)∈c→Ok id:=by
    intro id ob e
    obtain⟨a,_,_⟩:=j id ob e
    cases q:D.S.get id with
    | none=>exact absurd q a
    | some y=>exact af.dY q
   have t:∀ id ob,(⟨D.S.nx,D.S.lim,rQ .nil c⟩:af).get id=some ob→pr c id=true∧D.S.get id=some ob∧iU (al D.eH o.after.toList) D.j9 id=true:=by
    intro id ob e
    have hi:=af.dY e
    rw[af.bY hi] at e
    have e:PT.get dep (rQ .nil c) id=some ob:=e
    cases u:pr c id with
    | false=>rw[sX hi n u,PT.get_nil] at e;simp at e
    | true=>
      obtain⟨ob', O,R⟩:=zT (m:=.nil) hi n u
      rw[R] at e
      obtain⟨_,b,c'⟩:=j id ob' O
      exact⟨rfl,by rw[←b];exact e,c'⟩
   refine fH.mono (fun Q q=>?_) N
   refine pz.step q B (wS ..) (fun Y S0 E0 X v0 Z C U V=>?_)
   have p:nh P D.ops o D.F.get ⟨D.S.nx,D.S.lim,rQ .nil c⟩ v w:=nh.call I x (K _) M
   have W:=V _ _ _ p rfl fun id ob e=>(t id ob e).2.1
   rw[MZ]
   generalize z:ja w (af.nx ⟨D.S.nx,D.S.lim,rQ .nil c⟩) py (v::kids w (vh D.S.lim c)) []=nw
   exact C.news U B p W rfl (.inl rfl) (fun id ob e=>⟨(t id ob e).2.1,C.clear (t id ob e).2.2⟩) (fun id ob e u _=>C2.2 ⟨(t id ob e).1,u⟩) (fun id e _=>(C2.1 e).2) (fun id e _ A=>pk L id e A) (fun id ob e=>by
    rw[←z] at e
    rcases oz e with q | q
    · simp at q
    · exact q) (.inl rfl)
theorem HQ (A:cF T P)(x:D.os=o::os)(B:rP D.F D.ops o=some true)(p:bT o.op=false)(C:FT.look T g=some e)(H:∀ S,gi P D.F.eval S o.op=some (.call g args))(hh:hidden (al D.eH o.after.toList) D.j9=some aQ)(h:aJ P Qf (xU g e args ⟨D.S.nx,D.S.nx,jf D.S.m aQ⟩ (.fE D o os ⟨D.S.nx,D.S.nx,jf D.S.m aQ⟩ (al D.eH o.after.toList) .quiet none k))):aJ P Qf (.fE D k):=by
 obtain⟨v,y,I,J⟩:=vW A C h
 refine fH.mono (fun Q q=>?_) J
 refine pz.step q x (wS ..) (fun R S0 E0 O v0 U z K L=>?_)
 have a:nh P D.ops o D.F.get ⟨D.S.nx,D.S.nx,jf D.S.m aQ⟩ v y:=nh.call B p (H _) I
 obtain⟨_,t,u⟩:=z.aQ hh
 have n:∀ id ob,(⟨D.S.nx,D.S.nx,jf D.S.m aQ⟩:af).get id=some ob→id∉aQ∧D.S.get id=some ob:=by
  intro id ob e
  rw[u] at e
  split at e
  · simp at e
  · exact⟨by assumption,e⟩
 have M:=L _ _ _ a rfl fun id ob e=>(n id ob e).2
 rw[AW]
 generalize w:ja y (af.nx ⟨D.S.nx,D.S.nx,jf D.S.m aQ⟩) py [v] []=nw
 have:=z.news K x (ids:=[]) (nw:=nw) (Eo:=some ⟨D.S.nx,D.S.nx,jf D.S.m aQ⟩) a M rfl (.inr rfl) (fun id ob e=>⟨(n id ob e).2,t id (n id ob e).1⟩) (fun id ob e N j=>absurd j (Nat.not_lt.2 N)) (fun id e _=>by simp at e) (fun id e _ j=>by simp at e)
  (fun id ob e=>by
   rw[←w] at e
   rcases oz e with q | q
   · simp at q
   · exact q) (.inl rfl)
 exact this
theorem J6 (m:cF T P)(n:D.os=o::os)(p:rP D.F D.ops o=some true)(j:bT o.op=false)(t:FT.look T g=some e)(u:∀ S,gi P D.F.eval S o.op=some (.call g args))(h:aJ P Qf (Hk D o os (al D.eH o.after.toList) k g e args (hidden (al D.eH o.after.toList) D.j9))):aJ P Qf (.fE D k):=by
 cases hh:hidden (al D.eH o.after.toList) D.j9 with
 | none=>rw[hh] at h;exact h.elim
 | some aQ=>
   rw[hh] at h
   simp only[Hk] at h
   cases w:tb D.wm D.i with
   | true=>rw[w] at h;exact HO m n p j t u hh rfl h
   | false=>
     rw[w] at h
     simp only at h
     cases x:tb D.sm D.i with
     | true=>
       rw[x] at h
       refine HP m n p j t u rfl (fun id ob e=>?_) h
       obtain⟨a,b⟩:=HN e
       rcases oz a with q | ⟨_,y,z⟩
       · simp at q
       · exact⟨y,z,b⟩
     | false=>rw[x] at h;exact HQ m n p j t u hh h
theorem M0 (w:D.os=o::os)(z:rP D.F D.ops o=some true)(p:bT o.op=false)(h:aJ P Qf (QZ T P D o os (al D.eH o.after.toList) k)):aJ P Qf (.fE D k):=by
 unfold QZ at h
 split at h
 · rename_i aQ hh t
   simp only[mE] at h
   split at h
   · rename_i id args A
     split at h
     · rename_i st y f n mask env params assign body u
       split at h
       · rename_i e L j
         obtain⟨v,B,C,H⟩:=h
         refine fH.mono (fun Q q=>?_) H
         refine pz.step q w rfl (fun M S0 E0 K v0 N x I J=>?_)
         have a:nh P D.ops o D.F.get ⟨D.S.nx,D.S.lim,jf D.S.m aQ⟩ v B:=nh.pq z p A u (jK j) C
         exact x.wide I w hh t a (J _ _ _ a rfl fun id ob e=>by
          rw[(x.aQ hh).2.2] at e
          split at e
          · simp at e
          · exact e)
       · exact h.elim
     · exact h.elim
   · exact h.elim
 · exact h.elim
theorem J7 (u:cF T P)(n:P.follows .mixedOrders=true)(h:aJ P Qf (LL T P D k D.os)):aJ P Qf (.fE D k):=by
 cases a:D.os with
 | nil=>
   rw[a] at h
   refine fH.mono (fun Q q=>?_) h
   intro z S0 ⟨E,A,v,B,w⟩
   exact w.jg n a q
 | cons o os=>
   rw[a] at h
   simp only[LL] at h
   cases j:hU o.op with
   | none=>rw[j] at h;exact Pf a h
   | some c=>
     rw[j] at h
     simp only[Zh] at h
     cases m:rP D.F D.ops o with
     | none=>rw[m] at h;exact h.elim
     | some b=>
       rw[m] at h
       cases b with
       | false=>exact C0 a m h
       | true=>
         simp only[Qe] at h
         cases t:re T D.F c P with
         | none=>rw[t] at h;exact M0 a m (gL j) h
         | some p=>
           obtain⟨g,e,args⟩:=p
           rw[t] at h
           obtain⟨x,y⟩:=mM u j t
           exact J6 u a m (gL j) x y h
end
variable {s : St}
theorem ru (j:cF T P)(a:P.follows .mixedOrders=true)(h:aJ P Qf (s.step T P)):aJ P Qf s:=by
 cases s with
 | run fn F S k=>exact Pe j h
 | fE D k=>exact J7 j a h
 | done r S=>exact h
 | fork fn k l=>exact h
 | bad n=>exact h
theorem zU (p:cF T P)(j:P.follows .mixedOrders=true):∀(d:Nat) {s:St},aJ P Qf (St.rep T P d s)→aJ P Qf s:=by
 intro d
 induction d with
 | zero=>intro s h;exact ru p j h
 | succ d m=>
   intro s h
   refine m ?_
   simp only[St.rep] at h
   cases a:St.rep T P d s with
   | run fn F S k=>rw[a] at h;exact m h
   | fE D k=>rw[a] at h;exact m h
   | done r S=>rw[a] at h;exact h
   | fork fn k l=>rw[a] at h;exact h
   | bad n=>rw[a] at h;exact h
theorem aJ.ends {j:ic→af→Prop}(m:∀ r S,Qf r S→j r S){s:St}(h:aJ P Qf s):aJ P j s:=by
 cases s with
 | run fn F S k=>exact fH.ends m (fun Q Q' a q=>q.cons a) h
 | fE D k=>exact fH.ends m (fun Q Q' a q p S0 t=>(q p S0 t).cons a) h
 | done r S=>exact m r S h
 | fork fn k l=>exact fun F S u=>fH.ends m (fun Q Q' a q=>q.cons a) (h F S u)
 | bad n=>exact h
theorem J8 {l:List (ad×af)}(h:(F,S)∈l):St.run fn F S k∈LS fn k l:=by
 induction l with
 | nil=>simp at h
 | cons p r j=>
   obtain⟨a,b⟩:=p
   rcases List.mem_cons.1 h with e | h
   · simp only[iy] at e;obtain⟨rfl,rfl⟩:=e;exact List.mem_cons_self ..
   · exact ug _ (j h)
def Ends (l:List (AV×af)):ic→af→Prop:=fun r S=>∃ v,r=.ret v∧(v,S)∈l
variable {d : Nat}
theorem M1 (u:cF T P)(m:P.follows .mixedOrders=true):∀ {n:Nat} {l:List St} {j:List (AV×af)},St.outs T P d n l=some j→∀ s,s∈l→aJ P (Ends j) s:=by
 intro n
 induction n with
 | zero=>intro l j h;simp[St.outs] at h
 | succ n w=>
   intro l j h s p
   cases l with
   | nil=>simp at p
   | cons y r=>
     simp only[St.outs] at h
     split at h<;>try (simp at h;done)
     · rename_i v S q
       split at h<;>simp only[ar,reduceCtorEq] at h
       rename_i l' t
       subst h
       rcases List.mem_cons.1 p with rfl | p
       · exact zU u m d (by rw[q];exact⟨v,rfl,List.mem_cons_self ..⟩)
       · exact aJ.ends (fun r S ⟨v,a,b⟩=>⟨v,a,ug _ b⟩) (w t s p)
     · rename_i fn k l' q
       have:=w h
       rcases List.mem_cons.1 p with rfl | p
       · exact zU u m d (by rw[q];exact fun F S x=>this _ (List.mem_append.2 (.inl (J8 x))))
       · exact this s (List.mem_append.2 (.inr p))
variable {f : Nat}
theorem AX (p:cF T P)(j:P.follows .mixedOrders=true){n:Nat}{a:List (AV×af)}(h:St.outs T P d n [St.start T f args S]=some a):dc P f args S (Ends a):=by
 have h1:=M1 p j h _ (List.mem_cons_self ..)
 unfold St.start at h1
 cases m:FT.look T f with
 | none=>rw[m] at h1;exact h1.elim
 | some e=>
   rw[m] at h1
   obtain⟨t1,t2,_,_⟩:=p f e m
   exact dc.oO e.mask t1 t2 h1
theorem St.sound (p:cF T P)(j:P.follows .mixedOrders=true)(h:St.rep T P d (St.start T f args S)=.done r S'):dc P f args S fun m a=>m=r∧a=S' := by
 have h1:aJ P (fun m a=>m=r∧a=S') (St.start T f args S):=zU p j d (by rw[h];exact⟨rfl,rfl⟩)
 unfold St.start at h1
 cases n:FT.look T f with
 | none=>rw[n] at h1;exact h1.elim
 | some e=>
   rw[n] at h1
   obtain⟨t1,t2,_,_⟩:=p f e n
   exact dc.oO e.mask t1 t2 h1
end
end
end Go.Eng
namespace Go.Eng
noncomputable section
def acD : Bool→Bool→Bool
 | true,true=>true
 | false,false=>true
 | _,_=>false
def acE : Value→Value→Bool
 | .bool a,.bool b=>acD a b
 | .int j a,.int k b=>match decide (j=k) with
   | true=>decide (a=b)
   | false=>false
 | .string a,.string b=>decide (a=b)
 | .pointer none,.pointer none=>true
 | .map none,.map none=>true
 | .nilFunc,.nilFunc=>true
 | .nilIface,.nilIface=>true
 | _,_=>false
theorem Xx {a b:Bool}(h:acD a b=true):a=b:=by cases a<;>cases b<;>first | rfl | simp[acD] at h
theorem Xy {a b:Value}(h:acE a b=true):a=b:=by
 unfold acE at h
 split at h<;>try (simp at h;done)
 · rw[Xx h]
 · split at h
   · rename_i h1
     rw[of_decide_eq_true h1,of_decide_eq_true h]
   · simp at h
 · rw[of_decide_eq_true h]
 all_goals rfl
mutual
def q8 : AV→AV→Bool
 | .sc a,.sc b=>acE a b
 | .agg a,.agg b=>NH a b
 | .eG,.eG=>true
 | .an,.an=>true
 | .lit a,.lit b=>NH a b
 | .eV a,.eV b=>NH a b
 | .bm a,.bm b=>NH a b
 | .fq t a,.fq u b=>match Nat.beq t u with
   | true=>q8 a b
   | false=>false
 | .ptr a b c,.ptr x y z=>match Nat.beq a x,Nat.beq b y with
   | true,true=>Nat.beq c z
   | _,_=>false
 | .aj a b c,.aj x y z=>match Nat.beq a x,Nat.beq b y with
   | true,true=>Nat.beq c z
   | _,_=>false
 | .dJ a,.dJ b=>Nat.beq a b
 | .clip a,.clip b=>q8 a b
 | _,_=>false
def NH : List AV→List AV→Bool
 | [],[]=>true
 | a::r,b::s=>match q8 a b with
   | true=>NH r s
   | false=>false
 | _,_=>false
end
theorem vE {a b:Nat}(h:Nat.beq a b=true):a=b:=jK h
mutual
theorem tv : ∀(a b:AV),q8 a b=true→a=b
 | .sc a,b,h=>by cases b<;>simp only[q8,Bool.false_eq_true] at h;rw[Xy h]
 | .agg a,b,h=>by cases b<;>simp only[q8,Bool.false_eq_true] at h;rw[vO a _ h]
 | .eG,b,h=>by cases b<;>simp only[q8,Bool.false_eq_true] at h;rfl
 | .an,b,h=>by cases b<;>simp only[q8,Bool.false_eq_true] at h;rfl
 | .lit a,b,h=>by cases b<;>simp only[q8,Bool.false_eq_true] at h;rw[vO a _ h]
 | .eV a,b,h=>by cases b<;>simp only[q8,Bool.false_eq_true] at h;rw[vO a _ h]
 | .bm a,b,h=>by cases b<;>simp only[q8,Bool.false_eq_true] at h;rw[vO a _ h]
 | .fq t a,b,h=>by
   cases b<;>simp only[q8,Bool.false_eq_true] at h
   split at h
   · rename_i h1;rw[vE h1,tv a _ h]
   · simp at h
 | .ptr a b c,d,h=>by
   cases d<;>simp only[q8,Bool.false_eq_true] at h
   split at h
   · rename_i h1 h2;rw[vE h1,vE h2,vE h]
   · simp at h
 | .aj a b c,d,h=>by
   cases d<;>simp only[q8,Bool.false_eq_true] at h
   split at h
   · rename_i h1 h2;rw[vE h1,vE h2,vE h]
   · simp at h
 | .dJ a,b,h=>by cases b<;>simp only[q8,Bool.false_eq_true] at h;rw[vE h]
 | .clip a,b,h=>by cases b<;>simp only[q8,Bool.false_eq_true] at h;rw[tv a _ h]
 | .fn _ _ _,b,h=>by simp[q8] at h
 | .pq _,b,h=>by simp[q8] at h
 | .top,b,h=>by simp[q8] at h
theorem vO : ∀(a b:List AV),NH a b=true→a=b
 | [],b,h=>by cases b<;>simp only[NH,Bool.false_eq_true] at h;rfl
 | a::r,b,h=>by
   cases b<;>simp only[NH,Bool.false_eq_true] at h
   split at h
   · rename_i h1;rw[tv a _ h1,vO r _ h]
   · simp at h
end
def Aw (k:Nat):List (AV×af)→Option AV
 | []=>none
 | [(v,S)]=>tk S k v
 | (v,S)::r=>match tk S k v,Aw k r with
   | some a,some b=>match q8 a b with
     | true=>some a
     | false=>none
   | _,_=>none
def closed (T:FT)(P:Program)(n d k f:Nat)(args:List AV):Option AV:=
 match St.outs T P d n [St.start T f args af.empty] with
 | some l=>Aw k l
 | none=>none
variable {k : Nat}
theorem HR : ∀ {l:List (AV×af)} {i:AV},Aw k l=some i→∀ v S,(v,S)∈l→tk S k v=some i:=by
 intro l
 induction l with
 | nil=>intro i h;simp[Aw] at h
 | cons p r m=>
   obtain⟨u,U⟩:=p
   intro i h v S hm
   cases r with
   | nil=>
     simp only[List.mem_singleton,iy] at hm
     obtain⟨rfl,rfl⟩:=hm
     exact h
   | cons q r=>
     simp only[Aw] at h
     split at h<;>try (simp at h;done)
     rename_i a b o s
     split at h<;>simp only[ar,reduceCtorEq] at h
     rename_i j
     have j:=tv _ _ j
     subst h
     rcases List.mem_cons.1 hm with e | hm
     · simp only[iy] at e
       obtain⟨rfl,rfl⟩:=e
       exact o
     · exact m (by rw[j];exact s) v S hm
section
variable {T : FT} {P : Program}
variable {n d f : Nat} {args : List AV} {v : AV}
theorem Es (i:cF T P)(e:P.follows .mixedOrders=true)(h:closed T P n d k f args=some v):dc P f args af.empty fun r _=>r=.ret v:=by
 unfold closed at h
 split at h<;>try (simp at h;done)
 rename_i l j
 exact(AX i e j).freeze fun r m ⟨u,a,b⟩=>⟨u,a,HR h u m b⟩
theorem xl (b:cF T P)(a:P.follows .mixedOrders=true)(h:closed T P n d k f args=some v)(e:br args=true)(i:aq v=true)(S:af) :
 dc P f args S fun r j=>r=.ret v∧j=S:=(Es b a h).frame e i S
def vP : List (List AV×AV)→List AV→af→Option (AV×af)
 | [],_,_=>none
 | (a,v)::r,args,S=>match NH args a with
   | true=>some (v,S)
   | false=>vP r args S
def An (P:Program)(f:Nat)(l:List (List AV×AV)):Prop:=∀ a v,(a,v)∈l→∀ S,dc P f a S fun r b=>r=.ret v∧b=S
theorem tF : ∀ {l:List (List AV×AV)},An P f l→∀ args S v b,vP l args S=some (v,b)→dc P f args S fun r e=>r=.ret v∧e=b:=by
 intro l
 induction l with
 | nil=>intro _ args S v b h;simp[vP] at h
 | cons p r j=>
   obtain⟨a,u⟩:=p
   intro i args S v b h
   simp only[vP] at h
   split at h
   · rename_i m
     simp only[ar,iy] at h
     obtain⟨rfl,rfl⟩:=h
     rw[vO _ _ m]
     exact i a u (List.mem_cons_self ..) S
   · exact j (fun a v o=>i a v (ug _ o)) args S v b h
theorem An.nil : An P f []:=fun a v h=>by simp at h
theorem An.cons {a:List AV}{l:List (List AV×AV)}(h:∀ S,dc P f a S fun r i=>r=.ret v∧i=S)(t:An P f l):An P f ((a,v)::l):=by
 intro b u hm
 rcases List.mem_cons.1 hm with e | hm
 · simp only[iy] at e
   obtain⟨rfl,rfl⟩:=e
   exact h
 · exact t b u hm
def IF (n:Nat):tH→Bool
 | []=>true
 | (id,_)::r=>match Nat.ble n id with
   | true=>IF n r
   | false=>false
def yr : tH→List Nat
 | []=>[]
 | (id,_)::r=>id::yr r
def xV (k:Nat)(v:AV)(S:af)(c:tH):Option (AV×af):=
 match IF S.lim c with
 | true=>match tk ⟨S.nx,S.lim,rQ .nil c⟩ k v with
   | some a=>some (a,⟨S.nx,S.lim,jf S.m (yr c)⟩)
   | none=>none
 | false=>none
def Mc (T:FT)(P:Program)(d k f:Nat)(args:List AV)(S:af):Option (AV×af):=
 match St.rep T P d (St.start T f args S) with
 | .done (.ret v) S1=>xV k v S1 (ja S1 0 py [v] [])
 | _=>none
theorem C3 : ∀ {c:tH},IF n c=true→∀ id ob,(id,ob)∈c→n≤id:=by
 intro c
 induction c with
 | nil=>intro _ id ob h;simp at h
 | cons p r a=>
   obtain⟨k,x⟩:=p
   intro h id ob hm
   simp only[IF] at h
   split at h
   · rename_i b
     rcases List.mem_cons.1 hm with e | hm
     · simp only[iy] at e;obtain⟨rfl,rfl⟩:=e;exact eL b
     · exact a h id ob hm
   · simp at h
theorem uY {id:Nat}:∀ {c:tH},id∈yr c↔pr c id=true:=by
 intro c
 induction c with
 | nil=>simp[yr,pr]
 | cons p r b=>
   obtain⟨k,x⟩:=p
   simp only[yr,pr,List.mem_cons]
   cases a:Nat.beq k id with
   | true=>simp[vE a]
   | false=>
     have:id≠k:=by rintro rfl;rw[Nat.beq_refl] at a;simp at a
     simp[this,b]
variable {S S1 S2 : af} {c : tH} {g : Gh}
theorem Ext.uZ {Y:AV}(F:∀ id ob,(id,ob)∈c→S1.get id≠none∧ob=S1.get id)(B:xV k v S1 c=some (Y,S2)){g' : Gh}{w w' : World}(j:Inv S1 g' w')(h:Ext S g w S1 g' w') :
   ∃ N,(∀ x,VR g' v x→VR N Y x)∧Inv S2 N w' ∧ Ext S g w S2 N w' := by
 have s:∀ id ob,(id,ob)∈c→Ok id:=by
   intro id ob e
   obtain⟨a,_⟩:=F id ob e
   cases q:S1.get id with
   | none=>exact absurd q a
   | some y=>exact af.dY q
 unfold xV at B
 split at B<;>try (simp at B;done)
 rename_i G
 split at B<;>simp only[ar,iy,reduceCtorEq] at B
 rename_i v0 H
 obtain⟨rfl,rfl⟩:=B
 obtain⟨C,z⟩:∃ x:af,x=⟨S1.nx,S1.lim,rQ .nil c⟩:=⟨_,rfl⟩
 obtain⟨S2,r⟩:∃ x:af,x=⟨S1.nx,S1.lim,jf S1.m (yr c)⟩:=⟨_,rfl⟩
 rw[←z] at H
 rw[←r]
 have O:∀ id o,C.get id=some o→pr c id=true∧S1.get id=some o:=by
   intro id o e
   have hi:=af.dY e
   rw[af.bY hi,z] at e
   have e:PT.get dep (rQ .nil c) id=some o:=e
   cases Z:pr c id with
   | false=>rw[sX hi s Z,PT.get_nil] at e;simp at e
   | true=>
     obtain⟨ob,D,E⟩:=zT (m:=.nil) hi s Z
     rw[E] at e
     obtain⟨_,b⟩:=F id ob D
     exact⟨rfl,by rw[←b];exact e⟩
 have h2:∀ id o,S2.get id=some o→pr c id=false∧S1.get id=some o:=by
   intro id o e
   have hi:=af.dY e
   rw[af.bY hi,r] at e
   have e:PT.get dep (jf S1.m (yr c)) id=some o:=e
   obtain⟨a,b⟩:=MR hi (fun k R=>by obtain⟨ob,q⟩:=qF (uY.1 R);exact s k ob q) e
   refine⟨?_,by rw[af.bY hi];exact b⟩
   cases q:pr c id with
   | false=>rfl
   | true=>exact absurd (uY.2 q) a
 have W:∀ id,pr c id=false→S2.get id=S1.get id:=by
   intro id e
   by_cases hi:Ok id
   · rw[af.bY hi,af.bY hi,r]
     show PT.get dep (jf S1.m (yr c)) id=_
     rw[FD hi (fun k R=>by obtain⟨ob,q⟩:=qF (uY.1 R);exact s k ob q),if_neg]
     intro q;rw[uY.1 q] at e;simp at e
   · rw[af.fY hi,af.fY hi]
 have I:Inv C g' w' := j.less (by rw[z]) fun id o e=>(O id o e).2
 have A:=Gh.ir I
 have i:∀ b c0,(g'.freeze C w').ro b=some c0→g'.ro b=some c0∨(∃ t fz,w'.heap[b]? = some (.cells c0 t fz))∧∃ id o l,C.get id=some o∧g'.ph id=some l∧l.cd=b:=by
   intro b c0 e
   simp only[Gh.freeze] at e
   split at e
   · rename_i c' hc;simp only[ar] at e;subst e;exact .inl hc
   · split at e
     · rename_i c' t fz hh
       split at e<;>simp only[ar,reduceCtorEq] at e
       rename_i X
       subst e;exact .inr ⟨⟨t,fz,hh⟩,X⟩
     · simp at e
 have hlim:S1.lim=S.lim:=h.lim
 refine⟨g'.freeze C w', fun x K=>xZ I A k v v0 x H K,⟨?_,?_,?_,?_⟩,⟨h.size,h.os,h.tape,h.output,h.gQ,?_,Gh.le_trans h.ng A.1,by rw[r];exact h.nx,by rw[r];exact h.lim,?_,h.rM,?_,?_,h.fz⟩⟩
 · intro b c0 e
   rcases i b c0 e with q | ⟨q,_⟩
   · exact j.ro b c0 q
   · exact q
 · intro id o e
   obtain⟨a,b⟩:=h2 id o e
   obtain⟨l,p1,p2,p3⟩:=j.ob id o b
   refine⟨l,p1,?_,p3.mono A.1⟩
   cases q:(g'.freeze C w').ro l.cd with
   | none=>rfl
   | some c0=>
     rcases i _ c0 q with q | ⟨_,u,o0,U,D,E,L⟩
     · rw[p2] at q;simp at q
     · obtain⟨a0,V⟩:=O u o0 D
       have:=j.inj id u o o0 l U b V p1 E L.symm
       subst this
       rw[a] at a0;simp at a0
 · intro id J o o' l l' e e' p p' M
   exact j.inj id J o o' l l' (h2 id o e).2 (h2 J o' e').2 p p' M
 · intro id aQ;rw[r] at aQ;exact j.fresh id aQ
 · intro id o l e e1 e2 e3
   exact h.own id o l (h2 id o e).2 e1 e2 e3
 · intro id aQ
   rw[W id ?_]
   · exact h.sM id aQ
   · cases q:pr c id with
     | false=>rfl
     | true=>
       obtain⟨ob,q⟩:=qF q
       have:=C3 G id ob q
       omega
 · intro b c0 e M
   rcases i b c0 e with q | ⟨_,id,o,l,D,E,L⟩
   · exact h.wC b c0 q M
   · obtain⟨a,V⟩:=O id o D
     obtain⟨ob,q⟩:=qF a
     have:=C3 G id ob q
     obtain⟨u,o0,U,r1,r2,r3,r4⟩:=h.own id o l V (by omega) E (by rw[L];exact M)
     exact .inr ⟨u,o0,U,r1,r2,r3,by rw[r4,L]⟩
 · intro id aQ e
   have:=h.dead id aQ e
   cases q:S2.get id with
   | none=>rfl
   | some o=>rw[(h2 id o q).2] at this;simp at this
variable {l : List AV}
theorem AY (a:ja S1 0 py l []=c):∀ id ob,(id,ob)∈c→S1.get id≠none∧ob=S1.get id:=by
 intro id ob e
 rw[←a] at e
 rcases oz e with q | ⟨_,b,h⟩
 · simp at q
 · exact⟨b,h⟩
theorem dc.uZ {f:FuncId}{args:List AV}{v i:AV}{S S1 S2:af}{k:Nat}(h:dc P f args S fun r b=>r=.ret v∧b=S1)(p:xV k v S1 (ja S1 0 py [v] [])=some (i,S2)) :
  dc P f args S fun r b=>r=.ret i∧b=S2:=by
 intro g w xs hx hi
 refine(h g w xs hx hi).mono fun e w' ⟨r,b,g', ⟨q,j⟩,a,m,o⟩=>?_
 subst q;subst j
 obtain⟨s,t,u,y⟩:=Ext.uZ (AY rfl) p m o
 refine⟨.ret i,S2,s,⟨rfl,rfl⟩,?_,u,y⟩
 cases e with
 | returned x=>exact t x a
 | panicked c=>exact a.elim
 | outgrown=>exact a.elim
variable {args' : List AV} {Q : ic → af → Prop}
theorem dc.M3 {f:FuncId}(j:xV k (.bm args) S (ja S 0 py args [])=some (.bm args', S2))(h:dc P f args' S2 Q):dc P f args S Q:=by
 intro g w xs hx hi
 obtain⟨m,o,p,q⟩:=Ext.uZ (AY rfl) j hi (Ext.refl _ _ _)
 have s:=o (.tuple xs) (.bm hx.1 hx.2)
 cases s with | bm h1 h2=>?_
 refine(h m w xs ⟨h1,h2⟩ p).mono fun e w' ⟨r,t,g', u,a,b,i⟩=>?_
 exact⟨r,t,g', u,a,b,q.trans i⟩
def LU (k:Nat)(x:List AV→af→Option (AV×af))(args:List AV)(S:af):Option (AV×af):=
 match xV k (.bm args) S (ja S 0 py args []) with
 | some (.bm a,S2)=>x a S2
 | _=>none
variable {x : List AV → af → Option (AV × af)}
theorem Gl (hx:∀ args S v e,x args S=some (v,e)→dc P f args S fun r b=>r=.ret v∧b=e)(args:List AV)(S:af)(v:AV)(e:af)(h:LU k x args S=some (v,e)) :
  dc P f args S fun r b=>r=.ret v∧b=e:=by
 unfold LU at h
 split at h<;>try (simp at h;done)
 rename_i a S2 i
 exact dc.M3 i (hx _ _ _ _ h)
mutual
def tN : AV→Bool
 | .sc _=>true
 | .an=>true
 | .agg l=>Ft l
 | .bm l=>Ft l
 | .fq _ v=>tN v
 | _=>false
def Ft : List AV→Bool
 | []=>true
 | v::r=>match tN v with
   | true=>Ft r
   | false=>false
end
theorem C4 (h:Ft l=true):∀ {k:Nat} {a:AV},l[k]? = some a→tN a=true:=by
 induction l with
 | nil=>intro k a e;simp at e
 | cons v r b=>
   intro k a e
   simp only[Ft] at h
   split at h<;>try (simp at h;done)
   rename_i i
   cases k with
   | zero=>simp at e;subst e;exact i
   | succ k=>exact b h (by simpa using e)
theorem VR.flat {o:Gh}{x:Value}(h:VR g v x)(i:tN v=true):VR o v x:=by
 induction h with
 | sc h=>exact .sc h
 | agg j _ b=>exact .agg j fun k a x e m=>b k a x e m (C4 (by simpa [tN] using i) e)
 | bm j _ b=>exact .bm j fun k a x e m=>b k a x e m (C4 (by simpa [tN] using i) e)
 | fq _ b=>exact .fq (b (by simpa [tN] using i))
 | an=>exact .an
 | _=>simp[tN] at i
theorem dc.read {f:FuncId}(V:tk S k (.bm args)=some (.bm args'))(W:br args' = true)(X:tN v=true)(h:dc P f args' af.empty fun r _=>r=.ret v) :
   dc P f args S fun r O=>r=.ret v∧O=S:=by
 intro g w xs hx hi
 have D:=Gh.ir hi
 obtain⟨H,E⟩:∃ k:Gh,k=g.freeze S w:=⟨_,rfl⟩
 rw[←E] at D
 have J:=xZ hi D k _ _ (.tuple xs) V (.bm hx.1 hx.2)
 cases J with | bm h1 h2=>?_
 have B:∀ b c,H.ro b=some c→∃ t fz,w.heap[b]? = some (.cells c t fz):=by
   intro b c e
   subst E
   simp only[Gh.freeze] at e
   split at e
   · rename_i c' Y;simp only[ar] at e;subst e;exact hi.ro _ _ Y
   · split at e
     · rename_i c' t fz hh
       split at e<;>simp only[ar,reduceCtorEq] at e
       subst e;exact⟨t,fz,hh⟩
     · simp at e
 have K:Inv af.empty H.bare w:=⟨B,fun id o e=>by rw[af.di] at e;simp at e,fun id F o o' l l' e=>by rw[af.di] at e;simp at e,fun _ _=>rfl⟩
 have L:fG H.bare args' xs:=⟨h1,fun k a x e I=>(h2 k a x e I).bare (eA W e)⟩
 refine(h H.bare w xs L K).mono fun e w' ⟨r,O,g', Z,s,M,m⟩=>?_
 subst Z
 obtain⟨C,u⟩:∃ k:Gh,k={ ro:=fun b=>if b<w.heap.size then g.ro b else g'.ro b,ph:=g.ph }:=⟨_,rfl⟩
 have y:∀ b,b<w.heap.size→C.ro b=g.ro b:=fun b i=>by subst u;simp[i]
 have N:∀ b,¬ b<w.heap.size→C.ro b=g'.ro b:=fun b i=>by subst u;simp[i]
 have j:∀ b,b<w.heap.size→w'.heap[b]? = w.heap[b]? := fun b i=>m.gQ b i fun id o l e=>by rw[af.di] at e;simp at e
 have G:∀ b c,g.ro b=some c→b<w.heap.size:=by
   intro b c e
   obtain⟨t,fz,q⟩:=hi.ro b c e
   exact(Array.getElem?_eq_some_iff.1 q).1
 have A:Gh.le g C:=⟨fun b c e=>by rw[y b (G b c e)];exact e,fun _ _ e=>by subst u;exact e⟩
 have z:C.ph=g.ph:=by subst u;rfl
 refine⟨.ret v,S,C,⟨rfl,rfl⟩,?_,⟨?_,?_,?_,?_⟩,⟨m.size,m.os,m.tape,m.output,fun b i _=>j b i,?_,A,Nat.le_refl _,rfl,fun _ _=>rfl,?_,?_,?_,m.fz⟩⟩
 · cases e with
   | returned x=>exact VR.flat s X
   | panicked c=>exact s.elim
   | outgrown=>exact s.elim
 · intro b c e
   by_cases i:b<w.heap.size
   · rw[y b i] at e
     rw[j b i];exact hi.ro b c e
   · rw[N b i] at e;exact M.ro b c e
 · intro id o e
   obtain⟨l,a,b,c⟩:=hi.ob id o e
   refine⟨l,A.ph _ _ a,?_,?_⟩
   · rw[y _ c.lt];exact b
   · rw[j _ c.lt];exact c.mono A
 · intro id F o o' l l' e I p R i
   rw[z] at p R
   exact hi.inj id F o o' l l' e I p R i
 · intro id aQ;rw[z];exact hi.fresh id aQ
 · intro id o l e e1 U e3
   rw[z] at U
   exact⟨id,o,l,e,e1,U,rfl⟩
 · intro id _;rw[z]
 · intro b c e i;rw[y b i] at e;exact .inl e
 · exact fun _ _ e=>e
def D3 (k:Nat)(x:List AV→af→Option (AV×af))(args:List AV)(S:af):Option (AV×af):=
 match tk S k (.bm args) with
 | some (.bm a)=>match br a with
   | true=>match x a af.empty with
     | some (v,_)=>match tN v with
       | true=>some (v,S)
       | false=>none
     | none=>none
   | false=>none
 | _=>none
theorem Ca (hx:∀ args S v e,x args S=some (v,e)→dc P f args S fun r b=>r=.ret v∧b=e)(args:List AV)(S:af)(v:AV)(e:af)(h:D3 k x args S=some (v,e)) :
  dc P f args S fun r b=>r=.ret v∧b=e:=by
 unfold D3 at h
 split at h<;>try (simp at h;done)
 rename_i a j
 split at h<;>try (simp at h;done)
 rename_i m
 split at h<;>try (simp at h;done)
 rename_i u S1 o
 split at h<;>simp only[ar,iy,reduceCtorEq] at h
 rename_i i
 obtain⟨rfl,rfl⟩:=h
 exact dc.read j m i ((hx _ _ _ _ o).mono fun r b q=>q.1)
theorem PV (i:cF T P)(a:P.follows .mixedOrders=true)(args:List AV)(S:af)(v:AV)(b:af)(h:Mc T P d k f args S=some (v,b)):dc P f args S fun r e=>r=.ret v∧e=b:=by
 unfold Mc at h
 split at h
 · rename_i u S1 j
   exact dc.uZ ((St.sound i a j).mono fun r b q=>q) h
 · simp at h
def Ju : List (AV×AV)→List (AV×AV)→Bool
 | [],[]=>true
 | (a,b)::r,(c,d)::s=>match q8 a c,q8 b d with
   | true,true=>Ju r s
   | _,_=>false
 | _,_=>false
def Q4 : Option ak→Option ak→Bool
 | some (.arr n a),some (.arr m b)=>match Nat.beq n m with
   | true=>NH a b
   | false=>false
 | some (.mp a),some (.mp b)=>Ju a b
 | _,_=>false
def CF : tH→tH→Bool
 | [],[]=>true
 | (i,a)::r,(j,b)::s=>match Nat.beq i j,Q4 a b with
   | true,true=>CF r s
   | _,_=>false
 | _,_=>false
theorem Pg : ∀ {a b:List (AV×AV)},Ju a b=true→a=b:=by
 intro a
 induction a with
 | nil=>intro b h;cases b<;>simp[Ju] at h;rfl
 | cons p r e=>
   obtain⟨x,y⟩:=p
   intro b h
   cases b with
   | nil=>simp[Ju] at h
   | cons q s=>
     obtain⟨x', i⟩:=q
     simp only[Ju] at h
     split at h
     · rename_i h1 h2;rw[tv _ _ h1,tv _ _ h2,e h]
     · simp at h
theorem Ph {a b:Option ak}(h:Q4 a b=true):a=b:=by
 unfold Q4 at h
 split at h
 · split at h
   · rename_i h1;rw[vE h1,vO _ _ h]
   · simp at h
 · rw[Pg h]
 · simp at h
theorem M4 : ∀ {a b:tH},CF a b=true→a=b:=by
 intro a
 induction a with
 | nil=>intro b h;cases b<;>simp[CF] at h;rfl
 | cons p r e=>
   obtain⟨x,y⟩:=p
   intro b h
   cases b with
   | nil=>simp[CF] at h
   | cons q s=>
     obtain⟨x', i⟩:=q
     simp only[CF] at h
     split at h
     · rename_i h1 h2;rw[vE h1,Ph h2,e h]
     · simp at h
def CG (n:Nat):List (AV×af)→Option (AV×Nat×tH)
 | []=>none
 | [(v,S)]=>some (v,S.nx,ja S n py [v] [])
 | (v,S)::r=>match CG n r with
   | some (u,m,c)=>match q8 v u,Nat.beq S.nx m,CF (ja S n py [v] []) c with
     | true,true,true=>some (u,m,c)
     | _,_,_=>none
   | none=>none
def IX (T:FT)(P:Program)(n d f:Nat)(args:List AV)(S:af):Option (AV×af):=
 match Nat.ble S.lim S.nx with
 | true=>match St.outs T P d n [St.start T f args ⟨S.nx,S.nx,S.m⟩] with
   | some l=>match CG S.nx l with
     | some (v,m,c)=>some (v,⟨m,S.lim,rQ S.m c⟩)
     | none=>none
   | none=>none
 | false=>none
theorem J9 : ∀ {l:List (AV×af)} {v:AV} {m:Nat} {c:tH},CG n l=some (v,m,c)→∀ u S,(u,S)∈l→u=v∧S.nx=m∧ja S n py [u] []=c:=by
 intro l
 induction l with
 | nil=>intro v m c h;simp[CG] at h
 | cons p r a=>
   obtain⟨x,X⟩:=p
   intro v m c h u S hm
   cases r with
   | nil=>
     simp only[CG,ar,iy] at h
     simp only[List.mem_singleton,iy] at hm
     obtain⟨rfl,rfl⟩:=hm
     exact h
   | cons q r=>
     simp only[CG] at h
     split at h<;>try (simp at h;done)
     rename_i i j c' b
     split at h<;>simp only[ar,iy,reduceCtorEq] at h
     rename_i h1 h2 h3
     obtain⟨rfl,rfl,rfl⟩:=h
     rcases List.mem_cons.1 hm with e | hm
     · simp only[iy] at e
       obtain⟨rfl,rfl⟩:=e
       exact⟨tv _ _ h1,vE h2,M4 h3⟩
     · exact a b u S hm
theorem dc.quiet {f:FuncId}{lim m:Nat}{t:PT}(hl:lim≤n)(h:dc P f args ⟨n,n,t⟩ Q)(U:∀ r H,Q r H→r=.ret v∧H.nx=m∧ja H n py [v] []=c) :
   dc P f args ⟨n,lim,t⟩ fun r H=>r=.ret v∧H=⟨m,lim,rQ t c⟩:=by
 intro g w xs hx hi
 have K:Inv ⟨n,n,t⟩ g w:=Inv.less (A:=⟨n,n,t⟩) (B:=⟨n,lim,t⟩) rfl (fun id o e=>e) hi
 refine(h g w xs hx K).mono fun e w' ⟨r,S1,g', V,L,N,i⟩=>?_
 obtain⟨W,O,X⟩:=U r S1 V
 subst W
 have C:∀ id ob,(id,ob)∈c→n≤id∧S1.get id≠none∧ob=S1.get id:=by
   intro id ob e
   rw[←X] at e
   rcases oz e with q | q
   · simp at q
   · exact q
 have D:∀ id ob,(id,ob)∈c→Ok id:=by
   intro id ob e
   obtain⟨_,a,_⟩:=C id ob e
   cases q:S1.get id with
   | none=>exact absurd q a
   | some y=>exact af.dY q
 have u:∀ id o,(⟨n,n,t⟩:af).get id=some o→n≤id→False:=fun id o e Y=>by have:=K.jy e;exact absurd this (Nat.not_lt.2 Y)
 have F:∀ b,b<w.heap.size→w'.heap[b]? = w.heap[b]? := fun b j=>i.gQ b j fun id o l e M=>(u id o e M).elim
 obtain⟨S2,s⟩:∃ x:af,x=⟨m,lim,rQ t c⟩:=⟨_,rfl⟩
 have p:∀ id,id<n→S2.get id=(⟨n,lim,t⟩:af).get id:=by
   intro id aQ
   by_cases j:Ok id
   · rw[af.bY j,af.bY j,s]
     refine sX j D ?_
     cases q:pr c id with
     | false=>rfl
     | true=>obtain⟨ob,q⟩:=qF q;have:=(C id ob q).1;omega
   · rw[af.fY j,af.fY j]
 have G:∀ id,(⟨n,lim,t⟩:af).get id=(⟨n,n,t⟩:af).get id:=fun id=>rfl
 have z:∀ id o,S2.get id=some o→S1.get id=some o:=by
   intro id o e
   by_cases aQ:id<n
   · rw[p id aQ,G] at e
     rw[i.sM id aQ];exact e
   · have j:=af.dY e
     rw[af.bY j,s] at e
     have e:PT.get dep (rQ t c) id=some o:=e
     cases q:pr c id with
     | true=>
       obtain⟨ob,I,J⟩:=zT (m:=t) j D q
       rw[J] at e
       rw[←(C id ob I).2.2];exact e
     | false=>
       rw[sX j D q] at e
       have:(⟨n,n,t⟩:af).get id=some o:=by rw[af.bY j];exact e
       exact(u id o this (by omega)).elim
 rw[←s]
 refine⟨.ret v,S2,g', ⟨rfl,rfl⟩,L,N.less (by rw[s];exact O.symm) z,⟨i.size,i.os,i.tape,i.output,fun b j _=>F b j,?_,i.ng,by rw[s,←O];exact i.nx,by rw[s],?_,i.rM,?_,?_,i.fz⟩⟩
 · intro id o l e M R Z
   by_cases aQ:id<n
   · rw[p id aQ] at e
     exact⟨id,o,l,e,M,by rw[←i.rM id aQ];exact R,rfl⟩
   · obtain⟨E,o0,l0,I,J,_⟩:=i.own id o l (z id o e) (by show n≤id;omega) R Z
     exact(u E o0 I J).elim
 · intro id aQ
   have aQ:id<lim:=aQ
   exact p id (by omega)
 · intro b c0 e j
   rcases i.wC b c0 e j with q | ⟨E,o0,l0,I,J,_⟩
   · exact .inl q
   · exact(u E o0 I J).elim
 · intro id aQ e
   rw[p id aQ];exact e
theorem NR (p:cF T P)(e:P.follows .mixedOrders=true)(args:List AV)(S:af)(v:AV)(o:af)(h:IX T P n d f args S=some (v,o)):dc P f args S fun r j=>r=.ret v∧j=o:=by
 unfold IX at h
 split at h<;>try (simp at h;done)
 rename_i q
 split at h<;>try (simp at h;done)
 rename_i l i
 split at h<;>simp only[ar,iy,reduceCtorEq] at h
 rename_i u m c s
 obtain⟨rfl,rfl⟩:=h
 exact dc.quiet (eL q) (AX p e i) fun r S1 ⟨x,a,b⟩=>by
  obtain⟨t,w,y⟩:=J9 s x S1 b
  subst t
  exact⟨a,w,y⟩
end
def Ql (x y:List AV→af→Option (AV×af))(args:List AV)(S:af):Option (AV×af):=
 match x args S with
 | some r=>some r
 | none=>y args S
variable {f : Nat} {x : List AV → af → Option (AV × af)} {P : Program}
theorem QF {y:List AV→af→Option (AV×af)}(hx:∀ args S v b,x args S=some (v,b)→dc P f args S fun r a=>r=.ret v∧a=b)(i:∀ args S v b,y args S=some (v,b)→dc P f args S fun r a=>r=.ret v∧a=b)(args:List AV)(S:af)(v:AV)(b:af)(h:Ql x y args S=some (v,b)):dc P f args S fun r a=>r=.ret v∧a=b:=by
 unfold Ql at h
 split at h
 · rename_i r e
   simp only[ar] at h;subst h
   exact hx _ _ _ _ e
 · exact i _ _ _ _ h
def xE.Dx (P:Program)(f:Nat)(e:xE):Prop:=P.funcs[f]? = some e.fn∧e.fn.body=some e.body∧mJ P f=true∧e.ext=none
def Bz (P:Program):Nat→Nat→Nat→FT→Prop
 | _,_,_,.nil=>True
 | 0,b,_,.node o _ _=>match o with
   | some e=>xE.Dx P b e
   | none=>True
 | d+1,b,s,.node _ l r=>Bz P d b (2*s) l∧Bz P d (b+s) (2*s) r
theorem Pj : ∀ {d b s:Nat} {T:FT} {i:Nat} {e:xE},Bz P d b s T→i<2 ^ d→FT.get d T i=some e→xE.Dx P (b+s*i) e:=by
 intro d
 induction d with
 | zero=>
   intro b s T i e h hi a
   cases T with
   | nil=>simp[FT.get] at a
   | node o l r=>
     simp only[FT.get] at a
     subst a
     have:i=0:=by simpa using hi
     subst this
     simpa [Bz] using h
 | succ d m=>
   intro b s T i e h hi a
   cases T with
   | nil=>simp[FT.get] at a
   | node o l r=>
     obtain⟨h1,h2⟩:=h
     have p:2 ^ (d+1)=2*2 ^ d:=by rw[Nat.pow_succ];omega
     simp only[FT.get] at a
     split at a
     · rename_i j
       have j:=vE j
       have:=m h1 (by omega) a
       rw[show b+2*s*(i/2)=b+s*i from by rw[Nat.mul_comm 2 s,Nat.mul_assoc,show 2*(i/2)=i from by omega]] at this
       exact this
     · rename_i j
       have j:i%2=1:=by
        have:=Nat.mod_two_eq_zero_or_one i
        rcases this with q | q
        · rw[q] at j;simp at j
        · exact q
       have:=m h2 (by omega) a
       rw [show b+s+2*s*(i/2)=b+s*i from by rw[Nat.mul_comm 2 s,Nat.mul_assoc,Nat.add_assoc,show s+s*(2*(i/2))=s*i from by
        rw[show s+s*(2*(i/2))=s*(2*(i/2)+1) from by rw[Nat.mul_add,Nat.mul_one,Nat.add_comm],show 2*(i/2)+1=i from by omega]]] at this
       exact this
variable {T : FT}
theorem cF.base (h:Bz P 10 0 1 T):cF T P:=by
 intro f e i
 unfold FT.look at i
 split at i
 · rename_i j
   have j:=eL j
   obtain⟨a,b,c,d⟩:=Pj h (show f<2 ^ 10 from j) i
   rw[show 0+1*f=f from by omega] at a c
   exact⟨a,b,c,fun x hx=>by rw[d] at hx;simp at hx⟩
 · simp at i
theorem M5 : ∀ {d:Nat} {T:FT} {i j:Nat} {e:xE},i<2 ^ d→j<2 ^ d→FT.get d (FT.Dw d T i x) j=some e→FT.get d T j=some e∨(j=i∧∃ a,FT.get d T j=some a∧e={ a with ext:=some x }):=by
 intro d
 induction d with
 | zero=>
   intro T i j e hi s h
   cases T with
   | nil=>simp[FT.Dw,FT.get] at h
   | node o l r=>
     have hi:i=0:=by simpa using hi
     have s:j=0:=by simpa using s
     cases o with
     | none=>simp[FT.Dw,FT.get] at h
     | some a=>
       simp only[FT.Dw,FT.get,ar] at h
       exact .inr ⟨by omega,a,rfl,h.symm⟩
 | succ d w=>
   intro T i j e hi s h
   have z:2 ^ (d+1)=2*2 ^ d:=by rw[Nat.pow_succ];omega
   have p:∀ {n:Nat},Nat.beq (n%2) 0=false→n%2=1:=by
     intro n y
     rcases Nat.mod_two_eq_zero_or_one n with q | q
     · rw[q] at y;simp at y
     · exact q
   cases T with
   | nil=>simp[FT.Dw,FT.get] at h
   | node o l r=>
     simp only[FT.Dw] at h
     cases b:Nat.beq (i%2) 0<;>rw[b] at h<;>cases m:Nat.beq (j%2) 0<;>simp only[FT.get,m] at h ⊢
     · rcases w (by omega) (by omega) h with q | ⟨q,a,t,u⟩
       · exact .inl q
       · have:=p b;have:=p m
         exact .inr ⟨by omega,a,t,u⟩
     · exact .inl h
     · exact .inl h
     · rcases w (by omega) (by omega) h with q | ⟨q,a,t,u⟩
       · exact .inl q
       · have:=vE b;have:=vE m
         exact .inr ⟨by omega,a,t,u⟩
def FT.D4 (T:FT)(f:Nat)(x:List AV→af→Option (AV×af)):FT:=FT.Dw 10 T f x
theorem cF.ext (h:cF T P)(t:f<1024)(hx:∀ args S v p,x args S=some (v,p)→dc P f args S fun r m=>r=.ret v∧m=p):cF (T.D4 f x) P:=by
 intro g e i
 unfold FT.look at i
 split at i
 · rename_i j
   have o:=eL j
   rcases M5 (show f<2 ^ 10 from t) (show g<2 ^ 10 from o) i with q | ⟨rfl,u,w,z⟩
   · exact h g e (by unfold FT.look;rw[j];exact q)
   · obtain⟨a,b,c,_⟩:=h g u (by unfold FT.look;rw[j];exact w)
     subst z
     refine⟨a,b,c,fun y s=>?_⟩
     simp only[ar] at s
     subst s;exact hx
 · simp at i
end
end Go.Eng

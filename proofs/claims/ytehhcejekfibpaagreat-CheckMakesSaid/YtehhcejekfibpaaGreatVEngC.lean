/- Frames, contracts of functions, and regions without an order; no conditions. -/
import Derived.Test.YtehhcejekfibpaaGreatVEngB
import Derived.Orders
namespace Go.Eng
noncomputable section
mutual
def aq : AV→Bool
 | .sc _=>true
 | .agg cs=>bF cs
 | .dV=>true
 | .ax=>true
 | .lit es=>bF es
 | .fa cs=>bF cs
 | .ptr _ _ _=>false
 | .ak _ _ _=>false
 | .dm _=>false
 | .fn _ a b=>match bF a with
   | true=>bF b
   | false=>false
 | .eS _ v=>aq v
 | .bM c=>bF c
 | .nU _=>false
 | .clip v=>aq v
 | .top=>true
def bF : List AV→Bool
 | []=>true
 | v::r=>match aq v with
   | true=>bF r
   | false=>false
end
theorem dS {l:List AV}(h:bF l=true):∀ {k:Nat} {a:AV},l[k]? = some a→aq a=true:=by
 induction l with
 | nil=>intro k a e;simp at e
 | cons v r b=>
   intro k a e
   simp only[bF] at h
   split at h<;>try (simp at h;done)
   rename_i c
   cases k with
   | zero=>simp at e;subst e;exact c
   | succ k=>exact b h (by simpa using e)
theorem jL {e:AV}(h:aq e=true){j:Nat}{a:AV}(b:e.cells[j]? = some a):aq a=true:=by
 cases e with
 | agg cs=>exact dS (l:=cs) (by simpa [aq] using h) b
 | _=>
   cases j with
   | zero=>simp[AV.cells] at b;subst b;exact h
   | succ j=>simp[AV.cells] at b
def Gh.bare (g:Gh):Gh:={ ro:=g.ro,ph:=fun _=>none }
theorem VR.bare {g:Gh}{v:AV}{x:Value}(h:VR g v x)(b:aq v=true):VR g.bare v x:=by
 induction h with
 | sc h=>exact .sc h
 | agg d _ c=>exact .agg d fun k a x e f=>c k a x e f (dS (by simpa [aq] using b) e)
 | dV=>exact .dV
 | ax=>exact .ax
 | lit n s m l _ c=>exact .lit n s m l fun i j e a x p q r=>c i j e a x p q r (jL (dS (by simpa [aq] using b) p) q)
 | gi=>exact .gi
 | fa n m _ c=>exact .fa n m fun j a x p q=>c j a x p q (dS (by simpa [aq] using b) p)
 | ptr d=>simp[aq] at b
 | ak d w m=>simp[aq] at b
 | fI=>simp[aq] at b
 | dm d=>simp[aq] at b
 | fn hx t _ _ c o=>
   simp only[aq] at b
   split at b<;>try (simp at b;done)
   rename_i u
   exact .fn hx t (fun k a x e f=>c k a x e f (dS u e)) (fun k a x e f=>o k a x e f (dS b e))
 | eS _ c=>exact .eS (c (by simpa [aq] using b))
 | bM d _ c=>exact .bM d fun k a x e f=>c k a x e f (dS (by simpa [aq] using b) e)
 | nU d=>simp[aq] at b
 | clip _ c=>exact .clip (c (by simpa [aq] using b))
 | top=>exact .top
theorem cL.frame {P:Program}{f:FuncId}{args:List AV}{v:AV}(G:bF args=true)(H:aq v=true)(h:cL P f args af.empty fun r _=>r=.ret v)(S:af) :
   cL P f args S fun r F=>r=.ret v∧F=S:=by
 intro g w xs hx hi
 have C:Inv af.empty g.bare w:=⟨hi.ro,fun id o e=>by rw[af.cS] at e;simp at e,fun id t o o' l l' e=>by rw[af.cS] at e;simp at e,fun _ _=>rfl⟩
 have D:fe g.bare args xs:=⟨hx.1,fun k a x e z=>(hx.2 k a x e z).bare (dS G e)⟩
 refine(h g.bare w xs D C).mono fun e w' ⟨r,F,g', A,j,E,i⟩=>?_
 subst A
 obtain⟨B,d⟩:∃ k:Gh,k={ ro:=g'.ro,ph:=g.ph }:=⟨_,rfl⟩
 have u:∀ b c,g'.ro b=some c→b<w.heap.size→g.ro b=some c:=by
   intro b c e n
   rcases i.vl b c e n with q | ⟨L,o0,M,q,_⟩
   · exact q
   · rw[af.cS] at q;simp at q
 have m:∀ b,b<w.heap.size→w'.heap[b]? = w.heap[b]? := fun b n=>i.gw b n fun id o l e=>by rw[af.cS] at e;simp at e
 have s:Gh.le g B:=by subst d;exact⟨fun b c e=>i.mJ.ro b c e,fun _ _ e=>e⟩
 have y:Gh.le g'.bare B:=by subst d;exact⟨fun _ _ e=>e,fun _ _ e=>by simp[Gh.bare] at e⟩
 refine⟨.ret v,S,B,⟨rfl,rfl⟩,?_,⟨?_,?_,?_,?_⟩,⟨i.size,i.os,i.tape,i.output,fun b n _=>m b n,?_,s,Nat.le_refl _,rfl,fun _ _=>rfl,?_,?_,?_,i.fz⟩⟩
 · cases e with
   | returned x=>exact(VR.bare j H).mono y
   | panicked c=>exact j.elim
   | outgrown=>exact j.elim
 · intro b c e;subst d;exact E.ro b c e
 · intro id o e
   obtain⟨l,a,b,c⟩:=hi.ob id o e
   refine⟨l,s.ph _ _ a,?_,?_⟩
   · subst d
     cases A:g'.ro l.bO with
     | none=>rfl
     | some cc=>rw[u _ _ A c.lt] at b;simp at b
   · rw[m _ c.lt];exact c.mono s
 · intro id t o o' l l' e z p I n
   subst d;exact hi.inj id t o o' l l' e z p I n
 · intro id aH;subst d;exact hi.fresh id aH
 · intro id o l e J K N
   subst d;exact⟨id,o,l,e,J,K,rfl⟩
 · intro id _;subst d;rfl
 · intro b c e n;subst d;exact .inl (u b c e n)
 · exact fun _ _ e=>e
end
end Go.Eng
namespace Go.Eng
noncomputable section
mutual
def so (S:af):Nat→AV→Option AV
 | 0,_=>none
 | n+1,.ak id off len=>match S.get id with
   | some (.arr _ es)=>match Nat.ble (off+len) es.length with
     | true=>match zq S n ((es.drop off).take len) with
       | some l=>some (.lit l)
       | none=>none
     | false=>none
   | _=>none
 | n+1,.agg cs=>match zq S n cs with
   | some l=>some (.agg l)
   | none=>none
 | n+1,.bM cs=>match zq S n cs with
   | some l=>some (.bM l)
   | none=>none
 | n+1,.lit cs=>match zq S n cs with
   | some l=>some (.lit l)
   | none=>none
 | n+1,.eS t v=>match so S n v with
   | some x=>some (.eS t x)
   | none=>none
 | n+1,.clip v=>match so S n v with
   | some x=>some (.clip x)
   | none=>none
 | _+1,.sc v=>some (.sc v)
 | _+1,.dV=>some .dV
 | _+1,.ax=>some .ax
 | _+1,_=>none
def zq (S:af):Nat→List AV→Option (List AV)
 | 0,_=>none
 | _+1,[]=>some []
 | n+1,v::r=>match so S n v with
   | some x=>match zq S n r with
     | some l=>some (x::l)
     | none=>none
   | none=>none
end
variable {S : af}
theorem rS : ∀ {n:Nat} {l l' : List AV},zq S n l=some l' → l'.length=l.length∧∀(k:Nat) (a:AV),l[k]? = some a→∃(m:Nat) (b:AV),m<n∧so S m a=some b∧l'[k]? = some b:=by
 intro n
 induction n with
 | zero=>intro l l' h;simp[zq] at h
 | succ n d=>
   intro l l' h
   cases l with
   | nil=>simp only[zq,an] at h;subst h;exact⟨rfl,fun k a e=>by simp at e⟩
   | cons v r=>
     simp only[zq] at h
     split at h<;>try (simp at h;done)
     rename_i x hx
     split at h<;>simp only[an,reduceCtorEq] at h
     rename_i l2 c
     subst h
     obtain⟨h1,h2⟩:=d c
     refine⟨by simp[h1],fun k a e=>?_⟩
     cases k with
     | zero=>simp at e;subst e;exact⟨n,x,by omega,hx,rfl⟩
     | succ k=>
       obtain⟨m,b,p,q,f⟩:=h2 k a (by simpa using e)
       exact⟨m,b,by omega,q,by simpa using f⟩
def Gh.frozen (S:af)(g:Gh)(w:World)(n:Gh):Prop:=
 Gh.le g n∧n.ph=g.ph∧(∀ id o l c t fz,S.get id=some o→g.ph id=some l→w.heap[l.bO]? = some (.cells c t fz)→n.ro l.bO=some c)
variable {n : Nat}
theorem B5 {v b:AV}(h:so S n v=some b):(∃ cs a m,n=m+1∧v=.agg cs∧b=.agg a∧zq S m cs=some a)∨(v.cells=[v]∧b.cells=[b]):=by
 cases n with
 | zero=>simp[so] at h
 | succ n=>
   cases v with
   | agg cs=>
     simp only[so] at h
     split at h<;>simp only[an,reduceCtorEq] at h
     rename_i l c
     exact .inl ⟨cs,l,n,rfl,rfl,h.symm,c⟩
   | ak id off len=>
     simp only[so] at h
     split at h<;>try (simp at h;done)
     split at h<;>try (simp at h;done)
     split at h<;>simp only[an,reduceCtorEq] at h
     subst h;exact .inr ⟨rfl,rfl⟩
   | bM cs=>simp only[so] at h;split at h<;>simp only[an,reduceCtorEq] at h;subst h;exact .inr ⟨rfl,rfl⟩
   | lit cs=>simp only[so] at h;split at h<;>simp only[an,reduceCtorEq] at h;subst h;exact .inr ⟨rfl,rfl⟩
   | clip v=>simp only[so] at h;split at h<;>simp only[an,reduceCtorEq] at h;subst h;exact .inr ⟨rfl,rfl⟩
   | eS t v=>simp only[so] at h;split at h<;>simp only[an,reduceCtorEq] at h;subst h;exact .inr ⟨rfl,rfl⟩
   | sc v=>simp only[so,an] at h;subst h;exact .inr ⟨rfl,rfl⟩
   | dV=>simp only[so,an] at h;subst h;exact .inr ⟨rfl,rfl⟩
   | ax=>simp only[so,an] at h;subst h;exact .inr ⟨rfl,rfl⟩
   | _=>simp[so] at h
theorem qb {l l' : List AV}(h:zq S n l=some l'){k:Nat}{b:AV}(e:l'[k]? = some b):∃(m:Nat) (a:AV),m<n∧so S m a=some b∧l[k]? = some a:=by
 obtain⟨h1,h2⟩:=rS h
 have c:k<l.length:=by have:=(List.getElem?_eq_some_iff.1 e).1;omega
 obtain⟨m,a2,p,q,r⟩:=h2 k l[k] (nA c)
 rw[e] at r;simp only[an] at r;subst r
 exact⟨m,_,p,q,nA c⟩
variable {g gn : Gh} {m : Nat} {e0 e : AV}
theorem EA (c:∀ m,m<n→∀(v d:AV) (x:Value),so S m v=some d→VR g v x→VR gn d x)(i:m<n){a:AV}(f:so S m e0=some e){j:Nat}(b:e.cells[j]? = some a){x:Value}(h:∀ a0,e0.cells[j]? = some a0→VR g a0 x):VR gn a x:=by
 rcases B5 f with⟨cs,r,q,rfl,rfl,rfl,k⟩ | ⟨c1,c2⟩
 · obtain⟨l,a0,s,o,p⟩:=qb k b
   exact c l (by omega) a0 a x o (h a0 p)
 · rw[c2] at b
   cases j with
   | zero=>simp at b;subst b;exact c m i e0 _ x f (h e0 (by rw[c1];rfl))
   | succ j=>simp at b
theorem Ir (a:so S m e0=some e):e.cells.length=e0.cells.length:=by
 rcases B5 a with⟨cs,c,q,rfl,rfl,rfl,b⟩ | ⟨c1,c2⟩
 · exact(rS b).1
 · rw[c1,c2];rfl
variable {w : World}
theorem xg (hi:Inv S g w)(H:Gh.frozen S g w gn):∀(n:Nat) (v N:AV) (x:Value),so S n v=some N→VR g v x→VR gn N x:=by
 intro n
 induction n using Nat.strongRecOn with
 | _ n G=>
   intro v N x h s
   cases n with
   | zero=>simp[so] at h
   | succ n=>
     cases v with
     | ak id off len=>
       simp only[so] at h
       split at h<;>try (simp at h;done)
       rename_i sz es L
       split at h<;>try (simp at h;done)
       rename_i I
       have I:=ed I
       split at h<;>simp only[an,reduceCtorEq] at h
       rename_i l z
       subst h
       obtain⟨f,_⟩:=rS z
       have C:l.length=len:=by rw[f];simp;omega
       cases s with
       | fI=>
         have:l=[]:=List.eq_nil_of_length_eq_zero C
         subst this;exact .gi
       | ak M hc hbz=>
         rename_i cap B
         obtain⟨l1,O,a2,a3⟩:=hi.ob _ _ L
         rw[M] at O;simp only[an] at O;subst O
         obtain⟨c,t,X,b2,P,b4,Y,Z⟩:=a3
         have T:=H.2.2 id _ _ c t (0,0) L M X
         have A:∀ i e,l[i]? = some e→∃(m:Nat) (e0:AV),m<n∧so S m e0=some e∧es[off+i]? = some e0∧i<len:=by
          intro i e J
          obtain⟨m,e0,K,u,d⟩:=qb z J
          rw[List.getElem?_take] at d
          split at d<;>try (simp at d;done)
          rw[List.getElem?_drop] at d
          exact⟨m,e0,K,u,d,by assumption⟩
         have V:(off+len)*B.sz≤es.length*sz:=by rw[P];exact ue _ I
         have U:(off+len)*B.sz=off*B.sz+len*B.sz:=Nat.add_mul _ _ _
         have key:VR gn (.lit l) (.slice (some ⟨B.bO,B.base+off*B.sz,none⟩) l.length cap):=by
          refine VR.lit (sz:=B.sz) T ?_ ?_ (by omega) ?_
          · intro e J
            obtain⟨i,D,E⟩:=List.mem_iff_getElem.1 J
            obtain⟨m,e0,_,u,d,_⟩:=A i e (by rw[nA D,E])
            rw[Ir u,Y e0 (sq d),P]
          · rw[C];omega
          · intro i j e a y p q r
            obtain⟨m,e0,K,u,d,_⟩:=A i e p
            refine EA (n:=n+1) G (by omega) u q fun a0 F=>Z (off+i) j e0 a0 y d F ?_
            rw[←r]
            congr 1
            rw[←P,Nat.add_mul];omega
         rw[C] at key;exact key
     | agg cs=>
       simp only[so] at h
       split at h<;>simp only[an,reduceCtorEq] at h
       rename_i l z
       subst h
       cases s with | agg h1 h2=>?_
       refine .agg (by rw[(rS z).1];exact h1) fun k a y e Q=>?_
       obtain⟨m,a0,K,u,d⟩:=qb z e
       exact G m (by omega) a0 a y u (h2 k a0 y d Q)
     | bM cs=>
       simp only[so] at h
       split at h<;>simp only[an,reduceCtorEq] at h
       rename_i l z
       subst h
       cases s with | bM h1 h2=>?_
       refine .bM (by rw[(rS z).1];exact h1) fun k a y e Q=>?_
       obtain⟨m,a0,K,u,d⟩:=qb z e
       exact G m (by omega) a0 a y u (h2 k a0 y d Q)
     | lit cs=>
       simp only[so] at h
       split at h<;>simp only[an,reduceCtorEq] at h
       rename_i l z
       subst h
       have f:=(rS z).1
       cases s with
       | lit hr hs I W h2=>
         rename_i b o sz cap c
         have key:VR gn (.lit l) (.slice (some ⟨b,o,none⟩) l.length cap):=by
          refine VR.lit (sz:=sz) (H.1.ro _ _ hr) ?_ (by rw[f];exact I) (by omega) ?_
          · intro e J
            obtain⟨i,D,E⟩:=List.mem_iff_getElem.1 J
            obtain⟨m,e0,_,u,d⟩:=qb z (by rw[nA D,E])
            rw[Ir u];exact hs e0 (sq d)
          · intro i j e a y p q r
            obtain⟨m,e0,K,u,d⟩:=qb z p
            exact EA (n:=n+1) G (by omega) u q fun a0 F=>h2 i j e0 a0 y d F r
         rw[f] at key;exact key
       | gi=>
         have:l=[]:=List.eq_nil_of_length_eq_zero f
         subst this;exact .gi
     | eS t v=>
       simp only[so] at h
       split at h<;>simp only[an,reduceCtorEq] at h
       rename_i y R
       subst h
       cases s with | eS s=>exact .eS (G n (by omega) v y _ R s)
     | clip v=>
       simp only[so] at h
       split at h<;>simp only[an,reduceCtorEq] at h
       rename_i y R
       subst h
       cases s with | clip s=>exact .clip (G n (by omega) v y _ R s)
     | sc v=>simp only[so,an] at h;subst h;exact s.mono H.1
     | dV=>simp only[so,an] at h;subst h;exact s.mono H.1
     | ax=>simp only[so,an] at h;subst h;exact s.mono H.1
     | _=>simp[so] at h
open Classical in
noncomputable def Gh.freeze (g:Gh)(S:af)(w:World):Gh:=
 { ro:=fun b=>match g.ro b with
    | some c=>some c
    | none=>match w.heap[b]? with
      | some (.cells c _ _)=>if(∃ id o l,S.get id=some o∧g.ph id=some l∧l.bO=b) then some c else none
      | _=>none
   ph:=g.ph }
theorem Gh.gQ (hi:Inv S g w):Gh.frozen S g w (g.freeze S w):=by
 refine⟨⟨fun b c e=>by simp[Gh.freeze,e],fun _ _ e=>e⟩,rfl,fun id o l c t fz d f h=>?_⟩
 obtain⟨l', a,a2,_⟩:=hi.ob id o d
 rw[f] at a;simp only[an] at a;subst a
 simp only[Gh.freeze,a2,h]
 rw[if_pos ⟨id,o,l,d,f,rfl⟩]
theorem cL.freeze {P:Program}{f:FuncId}{args:List AV}{u:AV}{Q:gI→af→Prop}{n:Nat}(h:cL P f args af.empty Q)(B:∀ r d,Q r d→∃ v,r=.ret v∧so d n v=some u) :
   cL P f args af.empty fun r _=>r=.ret u:=by
 intro g w xs hx hi
 refine(h g w xs hx hi).mono fun e w' ⟨r,d,g', C,i,k,a⟩=>?_
 obtain⟨v,D,E⟩:=B r d C
 subst D
 have s:=Gh.gQ k
 have p:∀ id,(⟨d.nx,d.lim,.nil⟩:af).get id=none:=by
   intro id
   by_cases h:Ok id
   · rw[af.bK h];exact PT.get_nil _ _
   · exact af.fG h
 have j:∀ b c,(g'.freeze d w').ro b=some c→g'.ro b=some c∨(∃ t fz,w'.heap[b]? = some (.cells c t fz))∧∃ id o l,d.get id=some o∧g'.ph id=some l∧l.bO=b:=by
   intro b c e
   simp only[Gh.freeze] at e
   split at e
   · rename_i c' F;simp only[an] at e;subst e;exact .inl F
   · split at e
     · rename_i c' t fz hh
       split at e<;>simp only[an,reduceCtorEq] at e
       rename_i y
       subst e;exact .inr ⟨⟨t,fz,hh⟩,y⟩
     · simp at e
 refine⟨.ret u,⟨d.nx,d.lim,.nil⟩,g'.freeze d w', rfl,?_,⟨?_,?_,?_,?_⟩,⟨a.size,a.os,a.tape,a.output,a.gw,?_,Gh.le_trans a.mJ s.1,a.nx,a.lim,?_,a.qN,?_,fun id _ _=>p id,a.fz⟩⟩
 · cases e with
   | returned x=>exact xg k s n v u x E i
   | panicked c=>exact i.elim
   | outgrown=>exact i.elim
 · intro b c e
   rcases j b c e with q | ⟨q,_⟩
   · exact k.ro b c q
   · exact q
 · intro id o e;rw[p] at e;simp at e
 · intro id J o o' l l' e;rw[p] at e;simp at e
 · exact k.fresh
 · intro id o l e;rw[p] at e;simp at e
 · intro id aH;exact absurd aH (Nat.not_lt_zero id)
 · intro b c e z
   rcases j b c e with q | ⟨_,id,o,l,G,H,I⟩
   · exact a.vl b c q z
   · obtain⟨K,o0,L,A,_⟩:=a.own id o l G (Nat.zero_le id) H (by rw[I];exact z)
     rw[af.cS] at A;simp at A
end
end Go.Eng
namespace Go.Eng
noncomputable section
variable {ρ ρ' : Operand → Option AV}
theorem ru : ∀ {l:List Operand},(∀ x,x∈l→ρ x=ρ' x)→pH ρ l=pH ρ' l:=by
 intro l
 induction l with
 | nil=>intro _;rfl
 | cons x r a=>intro h;simp only[pH,h x (by simp),a fun y b=>h y (by simp[b])]
theorem xP : ∀ {l:List (Nat×Operand)},(∀ x,x∈l.map (·.2)→ρ x=ρ' x)→tl ρ l=tl ρ' l:=by
 intro l
 induction l with
 | nil=>intro _;rfl
 | cons p r a=>intro h;obtain⟨i,x⟩:=p;simp only[tl,h x (by simp),a fun y b=>h y (by simp only[List.map_cons,List.mem_cons];exact .inr b)]
variable {P : Program}
theorem Jw {S:af}{o:Op}(h:∀ x,x∈o.operands.toList→ρ x=ρ' x):fK P ρ S o=fK P ρ' S o:=by
 cases o with
 | build t j=>
   have:=xP (l:=j.toList) fun x hx=>h x (by simpa [Op.operands] using hx)
   simp only[fK,this]
 | buildSlice t n j=>
   have:=xP (l:=j.toList) fun x hx=>h x (by simpa [Op.operands] using hx)
   simp only[fK,this]
 | makeFunc f a b=>
   have h1:=ru (l:=a.toList) fun x hx=>h x (by simp only[Op.operands,Array.toList_append,List.mem_append];exact .inl hx)
   have h2:=ru (l:=b.toList) fun x hx=>h x (by simp only[Op.operands,Array.toList_append,List.mem_append];exact .inr hx)
   simp only[fK,h1,h2]
 | makeMap t r=>cases r<;>rfl
 | slice t x lo hi m=>
   cases m with
   | some m=>
     have h0:=h x (by simp[Op.operands])
     have h3:=h m (by simp[Op.operands])
     cases lo with
     | some a=>
       have h1:=h a (by simp[Op.operands])
       cases hi with
       | none=>rfl
       | some b=>have h2:=h b (by simp[Op.operands]);simp only[fK,h0,h1,h2,h3]
     | none=>
       cases hi with
       | none=>rfl
       | some b=>have h2:=h b (by simp[Op.operands]);simp only[fK,h0,h2,h3]
   | none=>
     have h0:=h x (by simp[Op.operands])
     cases lo with
     | none=>
       cases hi with
       | none=>simp only[fK,h0]
       | some b=>have h2:=h b (by simp[Op.operands]);simp only[fK,h0,h2]
     | some a=>
       have h1:=h a (by simp[Op.operands])
       cases hi with
       | none=>simp only[fK,h0,h1]
       | some b=>have h2:=h b (by simp[Op.operands]);simp only[fK,h0,h1,h2]
 | call c=>
   have h1:=ru (l:=c.args.toList) fun x hx=>h x (by simp only[Op.operands,Call.operands,Array.toList_append,List.mem_append];exact .inr hx)
   simp only[fK,tr,h1]
   cases e:c.callee with
   | builtin b=>rfl
   | invoke r n=>have h2:=h r (by simp[Op.operands,Call.operands,e]);simp only[h2]
   | value f=>have h2:=h f (by simp[Op.operands,Call.operands,e]);simp only[h2]
 | defer c=>
   have h1:=ru (l:=c.args.toList) fun x hx=>h x (by simp only[Op.operands,Call.operands,Array.toList_append,List.mem_append];exact .inr hx)
   simp only[fK,h1]
   cases e:c.callee with
   | builtin b=>rfl
   | invoke r n=>rfl
   | value f=>have h2:=h f (by simp[Op.operands,Call.operands,e]);simp only[h2]
 | alloc t=>rfl
 | pick c a b=>simp only[fK,h c (by simp[Op.operands]),h a (by simp[Op.operands]),h b (by simp[Op.operands])]
 | mapUpdate t m k x=>simp only[fK,h m (by simp[Op.operands]),h k (by simp[Op.operands]),h x (by simp[Op.operands])]
 | insert t m k x=>simp only[fK,h m (by simp[Op.operands]),h k (by simp[Op.operands]),h x (by simp[Op.operands])]
 | store t a x=>simp only[fK,h a (by simp[Op.operands]),h x (by simp[Op.operands])]
 | binOp o t a x u=>simp only[fK,h a (by simp[Op.operands]),h x (by simp[Op.operands])]
 | makeSlice t a x=>simp only[fK,h a (by simp[Op.operands]),h x (by simp[Op.operands])]
 | indexAddr t a x=>simp only[fK,h a (by simp[Op.operands]),h x (by simp[Op.operands])]
 | index t a x=>simp only[fK,h a (by simp[Op.operands]),h x (by simp[Op.operands])]
 | lookup t a x c=>simp only[fK,h a (by simp[Op.operands]),h x (by simp[Op.operands])]
 | move x=>simp only[fK,h x (by simp[Op.operands])]
 | assign x=>simp only[fK,h x (by simp[Op.operands])]
 | box t x=>simp only[fK,h x (by simp[Op.operands])]
 | load t x=>simp only[fK,h x (by simp[Op.operands])]
 | nilCheck x=>simp only[fK,h x (by simp[Op.operands])]
 | unOp o t x=>simp only[fK,h x (by simp[Op.operands])]
 | convert s d x=>simp only[fK,h x (by simp[Op.operands])]
 | makeInterface t x=>simp only[fK,h x (by simp[Op.operands])]
 | fieldAddr t x f=>simp only[fK,h x (by simp[Op.operands])]
 | field t x f=>simp only[fK,h x (by simp[Op.operands])]
 | range t x=>simp only[fK,h x (by simp[Op.operands])]
 | next x s=>simp only[fK,h x (by simp[Op.operands])]
 | entry x=>simp only[fK,h x (by simp[Op.operands])]
 | typeAssert x a b c=>simp only[fK,h x (by simp[Op.operands])]
 | extract x i=>simp only[fK,h x (by simp[Op.operands])]
 | panic x=>simp only[fK,h x (by simp[Op.operands])]
 | _=>rfl
def P4 (g:Gh)(all:Array Oper)(o:Oper)(get:Nat→Option AV)(fr:Frame):Prop:=∀ t,t∈o.looksAt all→∀ u,get t=some u→∃ x,fr.tmps[t]? = some x∧VR g u x
def looked (all:Array Oper)(o:Oper)(F:ad):Operand→Option AV
 | .tmp t=>if t∈o.looksAt all then F.get t else none
 | x=>F.eval x
variable {g : Gh} {all : Array Oper} {o : Oper} {F : ad} {fr : Frame}
theorem vU (h:P4 g all o F.get fr):DT g (looked all o F) fr.eval:=by
 intro x v e
 cases x with
 | tmp t=>
   simp only[looked] at e
   split at e
   · rename_i b
     obtain⟨y,d,i⟩:=h t b v e
     have:fr.eval (.tmp t)=y:=by simp[Frame.eval,Array.getD_eq_getD_getElem?, d]
     rw[this];exact i
   · simp at e
 | const c=>simp only[looked,ad.eval,an] at e;subst e;exact rW g c
 | global _=>simp[looked,ad.eval] at e
 | func f=>simp only[looked,ad.eval,an] at e;subst e;exact .fn rfl rfl (fun k a x e=>by simp at e) (fun k a x e=>by simp at e)
variable {E : af}
theorem sE : fK P (looked all o F) E o.op=fK P F.eval E o.op:=by
 refine Jw fun x hx=>?_
 cases x with
 | tmp t=>
   have:t∈o.looksAt all:=by
    unfold Oper.looksAt
    rw[List.mem_append]
    exact .inl (List.mem_filterMap.2 ⟨.tmp t,hx,rfl⟩)
   simp only[looked,this,if_true,ad.eval]
 | _=>rfl
theorem lJ (h:P4 g all o F.get fr){b:Bool}(a:qP F all o=some b):Region.wanted o (yielded all fr.tmps)=b:=by
 unfold qP at a
 split at a
 · rename_i e;simp only[an] at a;subst a;simp[Region.wanted,e]
 · rename_i j n e
   split at a<;>try (simp at a;done)
   rename_i p i
   split at a<;>try (simp at a;done)
   rename_i d k
   have f:d∈o.looksAt all:=by
     unfold Oper.looksAt
     rw[List.mem_append]
     exact .inr (by simp[e,i,k])
   split at a<;>simp only[an,reduceCtorEq] at a
   · rename_i c l
     subst a
     obtain⟨x,hx,m⟩:=h d f _ l
     cases m
     simp[Region.wanted,e,yielded,i,k,hx]
   · rename_i l
     subst a
     obtain⟨x,hx,m⟩:=h d f _ l
     cases m
     simp[Region.wanted,e,yielded,i,k,hx]
theorem mL.zQ (b:qP F all o=some false):mL P all o F.get E (.bM []) E:=by
 intro g w fr cs i rest m c d f h hi
 exact⟨w,g,undef,.one (uw c d f (lJ h b)),.bM rfl (fun k a x e=>by simp at e),hi,Ext.refl _ _ _⟩
variable {E' : af} {v : AV}
theorem mL.val (d:qP F all o=some true)(a:bG o.op=false)(b:fK P F.eval E o.op=some (.val v E')):mL P all o F.get E v E' := by
 intro g w fr cs i rest m e f h c hi
 rw[←sE (all:=all)] at b
 obtain⟨x,w', g', j,k,l,n⟩:=js hi (vU c) b
 exact⟨w', g', x,.one (vS (fO e f h (lJ c d) (.inr a)) j),k,l,n⟩
theorem mL.skip (f:qP F all o=some true)(b:bG o.op=false)(c:fK P F.eval E o.op=some (.skip E')):mL P all o F.get E (.bM []) E' := by
 intro g w fr cs i rest m h j l d hi
 rw[←sE (all:=all)] at c
 obtain⟨w', g', n,p,q⟩:=js hi (vU d) c
 exact⟨w', g', undef,.one (xN (fO h j l (lJ d f) (.inr b)) n),.bM rfl (fun k a x e=>by simp at e),p,q⟩
variable {args : List AV}
theorem mL.call {f:FuncId}(t:qP F all o=some true)(j:bG o.op=false)(n:fK P F.eval E o.op=some (.call f args))(u:cL P f args E fun r p=>r=.ret v∧p=E'):mL P all o F.get E v E' := by
 intro g w fr cs i rest m y q z s hi
 rw[←sE (all:=all)] at n
 obtain⟨xs,A,B⟩:=js hi (vU s) n
 have b:=Ah (P:=P) (cs:=cs) (fO y q z (lJ s t) (.inr j)) q A
 obtain⟨e,w', D,⟨r,p,g', ⟨C,k⟩,a,l,hx⟩,d,_,h⟩:=u g w xs B hi (fr::cs)
 subst C;subst k
 cases e with
 | returned x=>exact⟨w', g', x,Steps.head b (Steps.trans d (.one (step_leave_returned h))),a,l,hx⟩
 | panicked c=>exact a.elim
 | outgrown=>exact a.elim
theorem mL.mono {get a:Nat→Option AV}(b:∀ t u,get t=some u→a t=some u)(h:mL P all o get E v E'):mL P all o a E v E' :=
 fun g w fr cs i rest m c d f j hi=>h g w fr cs i rest m c d f (fun t k u e=>j t k u (b t u e)) hi
theorem mL.nU {id:Nat}{st:LoopState}{pend:Option Code}{fn n mask:Nat}{env:List (Nat×AV)}{params:List Tmp}{assign body:Code}(hg:qP F all o=some true)(hsp:bG o.op=false)(ha:fK P F.eval E o.op=some (.nU id args))(hlp:E.get id=some (.lp st pend fn n mask env params assign body))(J:args.length=params.length)(h:Reach P (rF id fn n mask env params assign body args) E fun F' V=>D6 id F' V fun r S'' => r=.ret v∧S'' = E'):mL P all o F.get E v E' := by
 intro g w fr cs i rest m hrun e1 ho Y hi
 rw[←sE (all:=all)] at ha
 obtain⟨l,xs,W,r1,r2⟩:=js hi (vU Y) ha
 obtain⟨l', a1,a2,a3⟩:=hi.ob _ _ hlp
 rw[W] at a1;simp only[an] at a1;subst a1
 obtain⟨lo,b1,b2,b3,b4,b5,b6,b7,b8,b9⟩:=a3
 have hsz:xs.size=lo.params.size:=by rw[b7,←r2.1,J];simp
 have hy:(Instr.yield l.bO xs).run P w=.ok (.round l.bO lo.fn ((lo.params.zip xs).foldl (fun tmps (x:Tmp×Value)=>tmps.setIfInBounds x.1 x.2) lo.tmps) lo.assign lo.body) w:=by
   simp[Instr.yield,Instr.getLoop,Sem.run_bind,getObj,Sem.run,b1,hsz]
 rw[hy] at r1
 obtain⟨O,K⟩:∃ x:Frame,x=Frame.round l.bO lo.fn ((lo.params.zip xs).foldl (fun tmps (x:Tmp×Value)=>tmps.setIfInBounds x.1 x.2) lo.tmps) lo.assign lo.body .normal:=⟨_,rfl⟩
 have hs:=fO (P:=P) (cs:=cs) (w:=w) hrun e1 ho (lJ Y hg) (.inr hsp)
 have Z:step P (lone fr cs w)=.next (lone O (fr::cs) w):=by
   refine step_lone_go ?_
   rw[hs,K]
   simp[stepG.apply,r1]
 have S:(lo.params.zip xs).foldl (fun tmps (x:Tmp×Value)=>tmps.setIfInBounds x.1 x.2) lo.tmps=(params.zip xs.toList).foldl (fun tmps (x:Tmp×Value)=>tmps.setIfInBounds x.1 x.2) lo.tmps:=by
   rw[←Array.foldl_toList,Array.toList_zip,b7]
 have hFR:mw P g (rF id fn n mask env params assign body args) O:=by
   rw[K,S]
   refine⟨b4,?_,?_,.cons (by rw[b8];exact .code) (.cons .Gg (.cons (by rw[b9];exact .code) .nil)),.nil,.run,rfl,⟨l,W,rfl⟩⟩
   · show((params.zip xs.toList).foldl _ lo.tmps).size=n
     rw[Ai];exact b5
   · intro t v e
     simp only[ad.get,rF] at e
     split at e
     · rename_i hmt
       exact Aj b5 J (by simpa using r2) (fun t v _ e=>b6 t v e) t v hmt e
     · simp[nC] at e
 obtain⟨F', V,g', w', f,cs', ⟨hd,I⟩,U,p2,p3,p4,p5,p6,X,p8⟩:=h g w O (fr::cs) (fr::cs) hFR (by simp[tg,rF]) hi
 have hk:F'.kind=.normal:=p3
 have hcs' : cs' = fr::cs:=by unfold tg at p2;rw[hk] at p2;exact p2
 subst hcs'
 have hfn' : f.fn=fn:=U.fn.trans p4
 have hdf:f.defers=[]:=by have:=U.defers;rw[hd] at this;exact this.CL
 have Q:f.kind=.normal:=U.kind.trans hk
 have k:f.roundOf=some l.bO:=by
   have z:=U.round
   rw[p5] at z
   have hl' := X.mJ.ph _ _ W
   cases e:f.roundOf with
   | none=>rw[e] at z;exact z.elim
   | some b=>rw[e] at z;obtain⟨l2,c1,c2⟩:=z;rw[hl'] at c1;simp only[an] at c1;subst c1;rw[c2]
 rcases I with⟨hmr,st2,pend2,fn2,n2,G,L,params2,s,H,M,T,I⟩ | ⟨lch,hmp,I⟩
 · have u:=U.runs hmr
   obtain⟨l2,c1,c2,c3⟩:=p6.ob _ _ M
   rw[X.mJ.ph _ _ W] at c1;simp only[an] at c1;subst c1
   obtain⟨A,d1,d2,d3,d4,d5,d6,d7,d8,d9⟩:=c3
   have hlt:=(Array.getElem?_eq_some_iff.1 d1).1
   have C:∀ a,(Instr.endRound l.bO a).run P w' = .ok (.bool a.isNone) { w' with heap:=w'.heap.setIfInBounds l.bO (.loop { A with state:=if a.isNone then .ready else .done,pending:=a }) }:=by
     intro a
     simp only[Instr.endRound,Instr.getLoop,Sem.run_bind,getObj,Sem.run,d1,Result.andThen_ok,Sem.run_pure]
     simp[setObj,Sem.run,d1]
   have N:∀(y:LoopState) (a:Option Code),Inv (V.set id (.lp y a fn2 n2 G L params2 s H)) g' { w' with heap:=w'.heap.setIfInBounds l.bO (.loop { A with state:=y,pending:=a }) } ∧
       Ext V g' w' (V.set id (.lp y a fn2 n2 G L params2 s H)) g' { w' with heap:=w'.heap.setIfInBounds l.bO (.loop { A with state:=y,pending:=a }) }:=by
     intro y a
     exact p6.jB (ob' := .loop { A with state:=y,pending:=a }) M T (X.mJ.ph _ _ W) (by simp)
       (by show(w'.heap.setIfInBounds l.bO _)[l.bO]? = _;simp[hlt]) (by intro j hj;show(w'.heap.setIfInBounds l.bO _)[j]? = _;rw[Array.getElem?_setIfInBounds,if_neg (Ne.symm hj)]) rfl ⟨rfl,Nat.le_refl _⟩ rfl
       ⟨_,rfl,rfl,rfl,d4,d5,d6,d7,d8,d9⟩
   have p:=U.todo
   rcases I with⟨htn,I⟩ | ⟨c,d,I⟩
   · rw[htn] at p
     generalize q:f.todo=td at p
     cases p
     obtain⟨u1,u2⟩:=N .ready none
     obtain⟨B,R⟩:=I
     simp only[gI.ret.injEq] at B
     subst B;subst R
     refine⟨_,g', .bool true,Steps.head Z (Steps.trans p8 (.one (step_lone_go ?_))),.sc rfl,u1,X.trans u2⟩
     simp[stepG,stepG.exec,u,q,k,Sem.runT_eq,C,doReturn,Q]
   · obtain⟨u1,u2⟩:=N .done (some c)
     have hgo:step P (lone f (fr::cs) w')=.next (lone (fr.finish (.bool false)) cs { w' with heap:=w'.heap.setIfInBounds l.bO (.loop { A with state:=.done,pending:=some c }) }):=by
       refine step_lone_go ?_
       generalize htodo:F'.todo=T' at p d
       unfold xz at d
       split at d
       · simp only[an] at d;subst d
         generalize q:f.todo=td at p
         cases p with | cons y1 y2=>?_
         cases y1
         simp[stepG,stepG.exec,u,q,k,Sem.runT_eq,C,doReturn,Q]
       · split at d<;>simp only[an,reduceCtorEq] at d
         rename_i xid bb hexq hex
         subst d
         generalize q:f.todo=td at p
         cases p with | cons y1 y2=>?_
         cases y1
         have D:=tE (id:=xid) y2
         rw[hex] at D
         simp only at D
         simp[stepG,stepG.exec,u,q,D,k,Sem.runT_eq,C,doReturn,Q]
       · simp at d
     obtain⟨B,R⟩:=I
     simp only[gI.ret.injEq] at B
     subst B;subst R
     exact⟨_,g', .bool false,Steps.head Z (Steps.trans p8 (.one hgo)),.sc rfl,u1,X.trans u2⟩
 · simp at I
end
end Go.Eng
namespace Go.Eng
noncomputable section
theorem vI (j:Nat):∀ m,tb m j=m.testBit j:=by
 intro m
 unfold tb
 rw[Nat.testBit]
 have a:Nat.land (Nat.shiftRight m j) 1=(m >>> j) &&& 1:=rfl
 rw[a]
 have:=Nat.and_one_is_mod (m >>> j)
 rw[this,Nat.and_comm,this]
 rcases Nat.mod_two_eq_zero_or_one (m >>> j) with e | e<;>rw[e]<;>rfl
theorem abu (a b j:Nat):tb (Nat.lor a b) j=(tb a j||tb b j):=by
 rw[vI,vI,vI]
 exact Nat.testBit_or a b j
theorem Xq (k j:Nat):tb (Nat.shiftLeft 1 k) j=true↔k=j:=by
 rw[vI]
 have:Nat.shiftLeft 1 k=2 ^ k:=by show 1 <<< k=2 ^ k;rw[Nat.one_shiftLeft]
 rw[this,Nat.testBit_two_pow]
 simp
theorem Is (j:Nat):tb 0 j=false:=by rw[vI];exact Nat.zero_testBit j
theorem Ft {dX:List (Nat×Nat)}{j:Nat}:∀ {l:List Edge},tb (al dX l) j=true↔∃ e,e∈l∧Region.binds .any e=true∧(e.on=j∨tb (AZ dX e.on) j=true):=by
 intro l
 induction l with
 | nil=>simp[al,Is]
 | cons e r a=>
   simp only[al]
   cases b:Region.binds .any e with
   | true=>
     simp only[abu,Bool.or_eq_true,Xq,a,List.mem_cons,exists_eq_or_imp,b,true_and]
   | false=>
     simp only[a,List.mem_cons,exists_eq_or_imp,b,Bool.false_eq_true,false_and,false_or]
def lu : List Oper→Nat→List (Nat×Nat)→List (Nat×Nat)
 | [],_,dX=>dX
 | o::os,i,dX=>lu os (i+1) ((i,al dX o.after.toList)::dX)
theorem Jx : ∀(os:List Oper) (i:Nat) (dX:List (Nat×Nat)) (k:Nat),k<i→AZ (lu os i dX) k=AZ dX k:=by
 intro os
 induction os with
 | nil=>intro i dX k _;rfl
 | cons o os a=>
   intro i dX k b
   simp only[lu]
   rw[a (i+1) _ k (by omega)]
   simp only[AZ]
   rw[show Nat.beq i k=false from by rw[Bool.eq_false_iff];exact fun e=>by have:=jj e;omega]
theorem nS : ∀(os:List Oper) (i:Nat) (dX:List (Nat×Nat)) (k:Nat) (o:Oper),os[k]? = some o→AZ (lu os i dX) (i+k)=al (lu (os.take k) i dX) o.after.toList:=by
 intro os
 induction os with
 | nil=>intro i dX k o h;simp at h
 | cons o' os a=>
   intro i dX k o h
   cases k with
   | zero=>
     simp at h;subst h
     simp only[lu,List.take_zero,Nat.add_zero]
     rw[Jx _ _ _ _ (by omega)]
     simp only[AZ,Nat.beq_refl]
   | succ k=>
     have:=a (i+1) ((i,al dX o'.after.toList)::dX) k o (by simpa using h)
     simp only[lu,List.take_succ_cons]
     rw[show i+(k+1)=i+1+k from by omega]
     exact this
theorem By : ∀(os:List Oper) (i:Nat) (dX:List (Nat×Nat)) (k:Nat),i+os.length≤k→AZ (lu os i dX) k=AZ dX k:=by
 intro os
 induction os with
 | nil=>intro i dX k _;rfl
 | cons o os a=>
   intro i dX k b
   simp only[List.length_cons] at b
   simp only[lu]
   rw[a (i+1) _ k (by omega)]
   simp only[AZ]
   rw[show Nat.beq i k=false from by rw[Bool.eq_false_iff];exact fun e=>by have:=jj e;omega]
variable {i : Nat}
theorem Ha (os:List Oper){k:Nat}(b:k<i):AZ (lu (os.take i) 0 []) k=AZ (lu os 0 []) k:=by
 cases a:os[k]? with
 | none=>
   have:=List.getElem?_eq_none_iff.1 a
   rw[List.take_of_length_le (by omega)]
 | some o=>
   have h1:=nS os 0 [] k o a
   have h2:=nS (os.take i) 0 [] k o (by rw[List.getElem?_take,if_pos b];exact a)
   rw[List.take_take,Nat.min_eq_left (by omega),←h1] at h2
   simpa using h2
def A1 (ops:Array Oper)(i j:Nat):Bool:=tb (AZ (lu ops.toList 0 []) i) j
theorem Fu : ∀ {l:List Edge},tQ i l=true→∀ e,e∈l→Region.binds .any e=true→e.on<i:=by
 intro l
 induction l with
 | nil=>intro _ e he;simp at he
 | cons a r f=>
   intro h e he c
   simp only[tQ] at h
   cases b:Region.binds .any a with
   | true=>
     rw[b] at h
     cases d:Nat.ble (a.on+1) i with
     | true=>
       rw[d] at h
       rcases List.mem_cons.1 he with rfl | he
       · exact ed d
       · exact f h e he c
     | false=>rw[d] at h;simp at h
   | false=>
     rw[b] at h
     rcases List.mem_cons.1 he with rfl | he
     · rw[b] at c;simp at c
     · exact f h e he c
variable {ops : Array Oper} {o : Oper}
theorem Hb {m:Nat}:∀ {l:List (Nat×Oper)},w9 ops o m l=true→∀ j p,(j,p)∈l→tb m j=false→o.apart ops p=true:=by
 intro l
 induction l with
 | nil=>intro _ j p h;simp at h
 | cons a r d=>
   obtain⟨k,q⟩:=a
   intro h j p hm b
   simp only[w9] at h
   have c:tb m k=false→o.apart ops q=true:=by
     intro e
     rw[e] at h
     cases f:o.apart ops q with
     | true=>rfl
     | false=>rw[f] at h;simp at h
   have g:w9 ops o m r=true:=by
     cases e:tb m k with
     | true=>rw[e] at h;exact h
     | false=>rw[e,c e] at h;exact h
   rcases List.mem_cons.1 hm with e | hm
   · simp only[gU] at e
     obtain⟨rfl,rfl⟩:=e
     exact c b
   · exact d g j p hm b
theorem B6 : ∀(os:List Oper) (i:Nat) (dX:List (Nat×Nat)) (done:List (Nat×Oper)),Ia ops os i dX done=true→∀ k o,os[k]? = some o →
   tQ (i+k) o.after.toList=true∧(∀ j p,(j,p)∈done→tb (AZ (lu os i dX) (i+k)) j=false→o.apart ops p=true) ∧
     ∀ b,b<k→∀ p,os[b]? = some p→tb (AZ (lu os i dX) (i+k)) (i+b)=false→o.apart ops p=true:=by
 intro os
 induction os with
 | nil=>intro i dX done _ k o h;simp at h
 | cons a os n=>
   intro i dX done h k o e
   simp only[Ia] at h
   split at h<;>try (simp at h;done)
   rename_i h1
   split at h<;>try (simp at h;done)
   rename_i h2
   cases k with
   | zero=>
     simp at e;subst e
     have q:AZ (lu (a::os) i dX) (i+0)=al dX a.after.toList:=nS (a::os) i dX 0 a rfl
     refine⟨h1,fun j p c d=>Hb h2 j p c (by rw[q] at d;exact d),fun b g=>by omega⟩
   | succ k=>
     obtain⟨l,f,m⟩:=n (i+1) _ _ h k o (by simpa using e)
     have r:i+1+k=i+(k+1):=by omega
     rw[r] at l f m
     refine⟨l,fun j p c d=>f j p (tf _ c) d,fun b g p c d=>?_⟩
     cases b with
     | zero=>simp at c;subst c;exact f i _ (List.mem_cons_self ..) d
     | succ b=>exact m b (by omega) p (by simpa using c) (by rw[show i+1+b=i+(b+1) from by omega];exact d)
theorem xQ (h:BP ops=true)(i j:Nat)(a b:Oper)(d:j<i)(e:A1 ops i j=false)(f:ops[i]? = some a)(c:ops[j]? = some b):a.apart ops b=true:=by
 obtain⟨_,_,q⟩:=B6 ops.toList 0 [] [] h i a (by simpa using f)
 exact q j d b (by simpa using c) (by simpa [A1] using e)
theorem B7 (a:ops[i]? = some o):AZ (lu ops.toList 0 []) i=al (lu (ops.toList.take i) 0 []) o.after.toList:=by
 have:=nS ops.toList 0 [] i o (by simpa using a)
 simpa using this
theorem xR (h:BP ops=true):BO ops (A1 ops):=by
 have low:∀ i o e,ops[i]? = some o→e∈o.after→Region.binds .any e=true→e.on<i:=by
   intro i o e c k l
   obtain⟨q,_,_⟩:=B6 ops.toList 0 [] [] h i o (by simpa using c)
   have:=Fu q e (by simpa using k) l
   omega
 refine⟨low,fun i j a=>?_⟩
 cases c:ops[i]? with
 | none=>
   have m:ops.toList.length≤i:=by have:=Array.getElem?_eq_none_iff.1 c;simpa using this
   unfold A1 at a
   rw[By _ _ _ _ (by omega)] at a
   rw[show AZ [] i=0 from rfl,Is] at a
   simp at a
 | some o=>
   unfold A1 at a
   rw[B7 c] at a
   obtain⟨e,f,g,b⟩:=Ft.1 a
   refine⟨o,e,rfl,by simpa using f,g,?_⟩
   rcases b with b | b
   · exact .inl b
   · refine .inr ?_
     have d:=low i o e c (by simpa using f) g
     rw[Ha _ d] at b
     exact b
end
end Go.Eng
namespace Go.Eng
noncomputable section
variable {S : af} {E1 E2 : Nat → af}
theorem Ms : ∀ {m:Nat},(∀ j,j<m→E1 j=E2 j)→nn S E1 m=nn S E2 m:=by
 intro m h
 cases m with
 | zero=>rfl
 | succ m=>simp only[nn,h m (by omega)]
variable {ops : Array Oper} {F : ad} {X : Nat → Bool} {t : Nat}
theorem Mt {v1 a:Nat→AV}:∀ {m:Nat},(∀ j,j<m→E1 j=E2 j)→(∀ j,j<m→v1 j=a j) →
   sv ops F S E1 v1 X m t=sv ops F S E2 a X m t:=by
 intro m
 induction m with
 | zero=>intro _ _;rfl
 | succ m c=>
   intro h b
   simp only[sv,c (fun j d=>h j (by omega)) (fun j d=>b j (by omega)),b m (by omega),nn,h m (by omega)]
variable {id : Nat}
theorem Mu {c1 c2:Nat→Nat→Option (Option ai)}:∀ {m:Nat},(∀ j,j<m→E1 j=E2 j)→(∀ j,j<m→c1 j=c2 j) →
   ov S E1 c1 X m id=ov S E2 c2 X m id:=by
 intro m
 induction m with
 | zero=>intro _ _;rfl
 | succ m b=>
   intro h a
   simp only[ov,b (fun j c=>h j (by omega)) (fun j c=>a j (by omega)),a m (by omega),nn,h m (by omega)]
variable {α : Type}
def jB (f:Nat→α)(i:Nat)(x:α):Nat→α:=fun j=>if j=i then x else f j
theorem dJ (f:Nat→α)(i:Nat)(x:α):jB f i x i=x:=by simp[jB]
theorem fE (f:Nat→α){i j:Nat}(x:α)(h:j<i):jB f i x j=f j:=by simp[jB,show j≠i by omega]
structure DI (P : Program) (F0 : ad) (S0 : af) (D : rC) (E E' : Nat → af) (v : Nat → AV) (ch : Nat → Nat → Option (Option ai)) : Prop where
 hi : D.i ≤ D.ops.size
 os : D.os = D.ops.toList.drop D.i
 dX : D.dX = lu (D.ops.toList.take D.i) 0 []
 ok : BP D.ops = true
 dp : DP D.ops F0 S0 (A1 D.ops) E E' v ch P D.i
 tn : ∀ t u, D.F.get t = some u → ∃ st, sv D.ops F0 S0 E' v (fun _ => true) D.i t = some (u, st)
 nx : D.S.nx = nn S0 E' D.i
 lim : D.S.lim = S0.lim
 Zw : S0.lim ≤ S0.nx
 get : ∀ id, D.S.get id = match ov S0 E' ch (fun _ => true) D.i id with
  | some (o, _) => some o
  | none => none
 jJ : ∀ j, j < D.i → ∀ id, ch j id ≠ none → ∃ c, (j, c) ∈ D.jJ ∧ c.has id = true
 es : ∀ j, j < D.i → ∀ id, (E j).get id ≠ none → (j, E j) ∈ D.es
 small : ∀ j c, (j, DU.Nx c) ∈ D.jJ → ∀ id, nV c id = true → Ok id
 mode : F0.mode = .run
 todo : ∃ id, F0.todo = .code (.region id D.ops true) :: D.F.todo
 gw : D.F.n = F0.n ∧ D.F.defers = F0.defers ∧ D.F.mode = F0.mode ∧ D.F.kind = F0.kind ∧ D.F.fn = F0.fn ∧ D.F.round = F0.round ∧ D.F.cm = F0.cm
theorem ad.OV {d:Nat}{v u:AV}(h:(F.set d v).get t=some u):(t=d∧t<F.n∧u=v)∨(¬ (t=d∧t<F.n)∧F.get t=some u):=by
 unfold ad.set at h
 cases f:Nat.ble (d+1) F.n with
 | false=>
   rw[f] at h
   refine .inr ⟨?_,h⟩
   rintro⟨rfl,c⟩
   rw[sr (show t+1≤F.n from c)] at f;simp at f
 | true=>
   have c:d<F.n:=ed f
   rw[f] at h
   simp only at h
   by_cases e:t=d
   · subst e
     refine .inl ⟨rfl,c,?_⟩
     cases b:tb F.mask t with
     | true=>
       rw[b] at h
       simp only[ad.get,b,sD,an] at h
       exact h.symm
     | false=>
       rw[b] at h
       simp only[ad.get,b,fU,Nat.beq_refl,an] at h
       exact h.symm
   · refine .inr ⟨fun q=>e q.1,?_⟩
     cases b:tb F.mask d with
     | true=>
       rw[b] at h
       simp only[ad.get] at h ⊢
       cases a:tb F.mask t with
       | true=>rw[a] at h;simp only at h;rw[rk _ _ e] at h;exact h
       | false=>rw[a] at h;exact h
     | false=>
       rw[b] at h
       simp only[ad.get] at h ⊢
       cases a:tb F.mask t with
       | true=>rw[a] at h;exact h
       | false=>
         rw[a] at h
         simp only[fU] at h
         rw[show Nat.beq d t=false from by rw[Bool.eq_false_iff];exact fun q=>e (jj q).symm] at h
         exact h
theorem ad.Mv (F:ad)(t:Nat)(v:AV):(F.set t v).n=F.n∧(F.set t v).defers=F.defers∧(F.set t v).mode=F.mode∧(F.set t v).kind=F.kind∧(F.set t v).fn=F.fn∧(F.set t v).round=F.round∧(F.set t v).cm=F.cm∧(F.set t v).todo=F.todo:=by
 unfold ad.set
 split
 · split<;>exact⟨rfl,rfl,rfl,rfl,rfl,rfl,rfl,rfl⟩
 · exact⟨rfl,rfl,rfl,rfl,rfl,rfl,rfl,rfl⟩
theorem ad.Mw (F:ad)(d:Option Tmp)(v:AV):(F.put d v).n=F.n∧(F.put d v).defers=F.defers∧(F.put d v).mode=F.mode∧(F.put d v).kind=F.kind∧(F.put d v).fn=F.fn∧(F.put d v).round=F.round∧(F.put d v).cm=F.cm∧(F.put d v).todo=F.todo:=by
 cases d with
 | none=>exact⟨rfl,rfl,rfl,rfl,rfl,rfl,rfl,rfl⟩
 | some t=>exact F.Mv t v
variable {P : Program} {F0 : ad} {S0 : af} {D : rC} {E E' : Nat → af} {v : Nat → AV} {ch : Nat → Nat → Option (Option ai)} {o : Oper} {os : List Oper}
theorem DI.here (h:DI P F0 S0 D E E' v ch)(a:D.os=o::os) :
   D.ops[D.i]? = some o∧os=D.ops.toList.drop (D.i+1)∧D.i<D.ops.size∧D.ops.toList.take (D.i+1)=D.ops.toList.take D.i++[o]:=by
 have h1:=h.os
 rw[a] at h1
 have h2:D.ops.toList[D.i]? = some o:=by
   have:(D.ops.toList.drop D.i)[0]? = some o:=by rw[←h1];rfl
   rw[List.getElem?_drop] at this
   simpa using this
 refine⟨by simpa using h2,?_,?_,?_⟩
 · have:(D.ops.toList.drop D.i).tail=os:=by rw[←h1];rfl
   rw[←this,List.tail_drop]
 · have:=(List.getElem?_eq_some_iff.1 h2).1
   simpa using this
 · rw[List.take_add_one,h2];rfl
theorem Du (o:Oper):∀(os:List Oper) (i:Nat) (dX:List (Nat×Nat)),lu (os++[o]) i dX=(i+os.length,al (lu os i dX) o.after.toList)::lu os i dX:=by
 intro os
 induction os with
 | nil=>intro i dX;rfl
 | cons a os b=>
   intro i dX
   simp only[List.cons_append,lu,b,List.length_cons]
   rw[show i+1+os.length=i+(os.length+1) from by omega]
theorem DI.wf (h:DI P F0 S0 D E E' v ch)(b:∀ id o,S0.get id=some o→id<S0.nx){o:ai}(e:D.S.get id=some o):id<D.S.nx:=by
 rw[h.get] at e
 split at e<;>simp only[an,reduceCtorEq] at e
 rename_i o' st a
 rw[h.nx]
 exact Nat.lt_of_lt_of_le (PW h.dp b (Nat.le_refl _) a) (Ez h.dp (Nat.le_refl _) a)
variable {En En' : af} {vn : AV}
theorem DI.step (h:DI P F0 S0 D E E' v ch)(ho:D.os=o::os){chn:Nat→Option (Option ai)}{K:Nat}(M:K=al D.dX o.after.toList)(hop:mL P D.ops o D.F.get En vn En')(N:En.nx=D.S.nx)(J:En.nx≤En'.nx)(Q:D.S.lim≤En.lim)(y:∀ id ob,En.get id=some ob→D.S.get id=some ob∧∀ j,j<D.i→tb K j=false→ch j id=none)(hR:∀ j,j<D.i→tb K j=false→∀ id,chn id≠none→id<D.S.nx→(E j).get id=none)(R:∀ id ob,chn id=some (some ob)→En'.get id=some ob)(T:∀ id ob,En.get id=some ob→En.lim≤id→chn id≠none)(U:∀ id,chn id≠none→En.lim≤id∧id<En'.nx)(V:∀ id,chn id≠none→En.get id≠none∨En.nx≤id){k:rC}(d1:k.F=KH D.F o.dst vn)(z:k.ops=D.ops)(d3:k.os=os)(s:k.i=D.i+1)(d5:k.dX=(D.i,K)::D.dX)(s1:k.S.nx=En'.nx)(s2:k.S.lim=D.S.lim)(s3:∀ id,k.S.get id=match chn id with
     | some r=>r
     | none=>D.S.get id)(c1:∀ id,chn id≠none→∃ c,(D.i,c)∈k.jJ∧c.has id=true)(c2:∀ p,p∈D.jJ→p∈k.jJ)(c3:∀ j c,(j,DU.Nx c)∈k.jJ→∀ id,nV c id=true→Ok id)(e1:∀ id,En.get id≠none→(D.i,En)∈k.es)(e2:∀ p,p∈D.es→p∈k.es) :
   DI P F0 S0 k (jB E D.i En) (jB E' D.i En') (jB v D.i vn) (jB ch D.i chn):=by
 obtain⟨h1,h2,h3,h4⟩:=h.here ho
 have B:∀ j,A1 D.ops D.i j=tb K j:=by
   intro j
   unfold A1
   rw[B7 h1,M,h.dX]
 have C:∀ {m},m≤D.i→∀ j,j<m→jB E' D.i En' j=E' j:=fun n j f=>fE _ _ (by omega)
 have av:∀ {m},m≤D.i→∀ j,j<m→jB v D.i vn j=v j:=fun n j f=>fE _ _ (by omega)
 have ac:∀ {m},m≤D.i→∀ j,j<m→jB ch D.i chn j=ch j:=fun n j f=>fE _ _ (by omega)
 have O:∀ {m},m≤D.i→nn S0 (jB E' D.i En') m=nn S0 E' m:=fun n=>Ms (C n)
 have G:∀ {m X t},m≤D.i→sv D.ops F0 S0 (jB E' D.i En') (jB v D.i vn) X m t=sv D.ops F0 S0 E' v X m t:=fun n=>Mt (C n) (av n)
 have H:∀ {m X id},m≤D.i→ov S0 (jB E' D.i En') (jB ch D.i chn) X m id=ov S0 E' ch X m id:=fun n=>Mu (C n) (ac n)
 have cs:∀ {i},i<D.i+1→i<D.i∨i=D.i:=fun hi=>by omega
 have Y:=D.F.Mw o.dst vn
 rw[←C3,←d1] at Y
 have dp:DP D.ops F0 S0 (A1 D.ops) (jB E D.i En) (jB E' D.i En') (jB v D.i vn) (jB ch D.i chn) P (D.i+1):=by
   refine⟨?_,?_,?_,?_,?_,?_,?_,?_,?_,?_,?_⟩
   · intro i hi
     rcases cs hi with q | rfl
     · rw[fE _ _ q,O (by omega)];exact h.dp.Yb i q
     · rw[dJ,O (Nat.le_refl _),N,h.nx]
   · intro i hi
     rcases cs hi with q | rfl
     · rw[fE _ _ q,fE _ _ q];exact h.dp.mono i q
     · rw[dJ,dJ];exact J
   · intro i hi
     rcases cs hi with q | rfl
     · rw[fE _ _ q];exact h.dp.lim i q
     · rw[dJ,←h.lim];exact Q
   · intro i hi id ob e
     rcases cs hi with q | rfl
     · rw[fE _ _ q] at e
       obtain⟨st,L⟩:=h.dp.acG i q id ob e
       exact⟨st,by rw[H (by omega)];exact L⟩
     · rw[dJ] at e
       obtain⟨a,b⟩:=y id ob e
       rw[h.get] at a
       split at a<;>simp only[an,reduceCtorEq] at a
       rename_i o' st L
       subst a
       refine⟨st,?_⟩
       rw[H (Nat.le_refl _),←L]
       refine vT fun j f l=>?_
       cases A:A1 D.ops D.i j with
       | true=>rfl
       | false=>exact absurd (b j f (by rw[←B];exact A)) l
   · intro i hi j f A id l
     rcases cs hi with q | rfl
     · rw[fE _ _ (show j<D.i by omega)] at l
       rw[fE _ _ q];exact h.dp.GG i q j f A id l
     · rw[fE _ _ f] at l
       rw[dJ]
       cases e:En.get id with
       | none=>rfl
       | some ob=>exact absurd ((y id ob e).2 j f (by rw[←B];exact A)) l
   · intro i hi j f I A id l x
     rcases cs f with q | rfl
     · rw[fE _ _ q] at l x
       rw[fE _ _ (show i<D.i by omega)]
       exact h.dp.LJ i (by omega) j q I A id l x
     · rw[dJ] at l x
       rw[fE _ _ I]
       exact hR i I (by rw[←B];exact A) id l (by rw[←N];exact x)
   · intro i hi id ob e
     rcases cs hi with q | rfl
     · rw[fE _ _ q] at e;rw[fE _ _ q];exact h.dp.aql i q id ob e
     · rw[dJ] at e;rw[dJ];exact R id ob e
   · intro i hi id ob e W
     rcases cs hi with q | rfl
     · rw[fE _ _ q] at e W;rw[fE _ _ q];exact h.dp.aqm i q id ob e W
     · rw[dJ] at e W;rw[dJ];exact T id ob e W
   · intro i hi id e
     rcases cs hi with q | rfl
     · rw[fE _ _ q] at e;rw[fE _ _ q,fE _ _ q];exact h.dp.YC i q id e
     · rw[dJ] at e;rw[dJ,dJ];exact U id e
   · intro i hi id e
     rcases cs hi with q | rfl
     · rw[fE _ _ q] at e;rw[fE _ _ q];exact h.dp.acH i q id e
     · rw[dJ] at e;rw[dJ];exact V id e
   · intro i hi
     rcases cs hi with q | rfl
     · obtain⟨oi,a,b⟩:=h.dp.op i q
       refine⟨oi,a,?_⟩
       rw[fE _ _ q,fE _ _ q,fE _ _ q]
       simp only[G (show i≤D.i by omega)]
       exact b
     · refine⟨o,h1,?_⟩
       rw[dJ,dJ,dJ]
       refine hop.mono fun t u e=>?_
       obtain⟨st,L⟩:=h.tn t u e
       rw[G (Nat.le_refl _),L]
 refine⟨?_,?_,?_,?_,?_,?_,?_,?_,h.Zw,?_,?_,?_,c3,h.mode,?_,?_⟩
 · rw[s,z];omega
 · rw[d3,z,s];exact h2
 · rw[d5,z,s,h4,Du,←h.dX,M]
   congr 2
   have:(D.ops.toList.take D.i).length=D.i:=by rw[List.length_take];simp;omega
   omega
 · rw[z];exact h.ok
 · rw[z,s];exact dp
 · intro t u e
   rw[z,s]
   simp only[sv,dJ,true_and]
   have hdo:sR D.ops D.i=o.dst:=by simp[sR,h1]
   rw[hdo,G (Nat.le_refl _)]
   rw[d1,C3] at e
   cases hd:o.dst with
   | none=>
     rw[hd] at e
     rw[if_neg (by simp)]
     exact h.tn t u e
   | some d=>
     rw[hd] at e
     rcases ad.OV e with⟨Z,q2,q3⟩ | ⟨Z,q2⟩
     · subst Z;subst q3
       rw[if_pos ⟨rfl,by rw[←h.gw.1];exact q2⟩]
       exact⟨_,rfl⟩
     · rw[if_neg]
       · exact h.tn t u q2
       · rintro⟨a,b⟩
         simp only[an] at a
         exact Z ⟨a.symm,by rw[h.gw.1];exact b⟩
 · rw[s1,s];simp only[nn,dJ]
 · rw[s2];exact h.lim
 · intro id
   rw[s3,s]
   simp only[ov,dJ,if_true,H (Nat.le_refl _)]
   cases l:chn id with
   | none=>exact h.get id
   | some r=>cases r<;>rfl
 · intro j f id e
   rw[s] at f
   rcases cs f with q | rfl
   · rw[fE _ _ q] at e
     obtain⟨c,a,b⟩:=h.jJ j q id e
     exact⟨c,c2 _ a,b⟩
   · rw[dJ] at e;exact c1 id e
 · intro j f id e
   rw[s] at f
   rcases cs f with q | rfl
   · rw[fE _ _ q] at e ⊢;exact e2 _ (h.es j q id e)
   · rw[dJ] at e ⊢;exact e1 id e
 · obtain⟨id,e⟩:=h.todo
   exact⟨id,by rw[Y.2.2.2.2.2.2.2,z];exact e⟩
 · obtain⟨k1,k2,k3,k4,k5,k6,k7⟩:=h.gw
   obtain⟨a1,a2,a3,a4,a5,a6,a7,_⟩:=Y
   exact⟨a1.trans k1,a2.trans k2,a3.trans k3,a4.trans k4,a5.trans k5,a6.trans k6,a7.trans k7⟩
theorem DI.start (b:BP D.ops=true)(k:S0.lim≤S0.nx)(l:F0.mode=.run)(m:F0.todo=.code (.region id D.ops true)::D.F.todo)(d:D.F=vz F0 D.F.todo)(a:D.S=S0)(n:D.os=D.ops.toList)(hi:D.i=0)(p:D.dX=[])(q:D.jJ=[]) :
   DI P F0 S0 D (fun _=>S0) (fun _=>S0) (fun _=>.top) (fun _ _=>none):=by
 refine⟨by omega,by rw[hi];simpa using n,by rw[hi,p];rfl,b,?_,?_,?_,by rw[a],k,?_,?_,?_,?_,l,⟨id,m⟩,?_⟩
 · rw[hi]
   exact⟨fun _ h=>by omega,fun _ h=>by omega,fun _ h=>by omega,fun _ h=>by omega,fun _ h=>by omega,fun _ h=>by omega,fun _ h=>by omega,fun _ h=>by omega,fun _ h=>by omega,fun _ h=>by omega,fun _ h=>by omega⟩
 · intro t u e
   rw[hi]
   have:F0.get t=some u:=by
    rw[d,zS] at e
    simp only[ad.get] at e ⊢
    cases f:tb F0.mask t with
    | true=>rw[f] at e;exact e
    | false=>rw[f] at e;simp[nC] at e
   exact⟨_,by simp only[sv,this];rfl⟩
 · rw[hi,a];rfl
 · intro id;rw[hi,a];simp only[ov];cases S0.get id<;>rfl
 · intro j r;omega
 · intro j r;omega
 · intro j c h;rw[q] at h;simp at h
 · rw[d,zS];exact⟨rfl,rfl,rfl,rfl,rfl,rfl,rfl⟩
theorem DI.iJ (a:P.follows .mixedOrders=true)(h:DI P F0 S0 D E E' v ch)(b:D.os=[]){G:ad→af→Prop}(f:Reach P (vz D.F D.F.todo) D.S G):Reach P F0 S0 G:=by
 have k:D.i=D.ops.size:=by
  have h1:=h.os
  rw[b] at h1
  have:=List.drop_eq_nil_iff.1 h1.symm
  simp at this
  have:=h.hi
  omega
 obtain⟨id,l⟩:=h.todo
 obtain⟨k1,k2,k3,k4,k5,k6,k7⟩:=h.gw
 exact Reach.drawn a h.mode l h.dp k (xR h.ok) (fun i j m n _ p q b c=>xQ h.ok i j m n p q b c) (F' := vz D.F D.F.todo) ⟨k1,rfl,k2,k3⟩ k4 k5 k6 k7
  (fun t u e=>by
   have:D.F.get t=some u:=by
    rw[zS] at e
    simp only[ad.get] at e ⊢
    cases d:tb D.F.mask t with
    | true=>rw[d] at e;exact e
    | false=>rw[d] at e;simp[nC] at e
   exact h.tn t u this) h.nx h.lim h.get f
structure Ic (E E' : af) : Prop where
 nx : E.nx ≤ E'.nx
 lim : E'.lim = E.lim
 rM : ∀ id, id < E.lim → E'.get id = E.get id
 dead : ∀ id, id < E.nx → E.get id = none → E'.get id = none
 wf : ∀ id o, E'.get id = some o → id < E'.nx
variable {g : Gh} {w : World} {fr : Frame}
theorem DJ.init (z:mw P g F fr)(hi:Inv S g w)(td:List Item)(n:Nat) :
   DJ ops F S E' v ch (fun _=>false) n g w fr g w { fr with todo:=td }:=by
 have q:∀ m t,sv ops F S E' v (fun _=>false) m t=sv ops F S E' v (fun _=>false) 0 t:=by
   intro m t
   exact H7 (i:=0) (Nat.zero_le _) (fun j _ _ e=>by simp at e)
 have d:∀ m id,ov S E' ch (fun _=>false) m id=ov S E' ch (fun _=>false) 0 id:=by
   intro m id
   exact Ej (i:=0) (Nat.zero_le _) (fun j _ _ e=>by simp at e)
 have f:∀ {id l},g.ph id=some l→(g.cut S.nx).ph id=some l:=fun e=>Gh.CM (hi.BL e) e
 have k:Gh.le g (g.cut S.nx):=⟨fun _ _ e=>e,fun _ _ e=>f e⟩
 refine⟨?_,?_,?_,hi.ro,fun id l e=>.inl (hi.BL e),Nat.le_refl _,rfl,⟨rfl,Nat.le_refl _⟩,rfl,fun _ _ _=>rfl,?_,Gh.le_refl _,fun _ _=>rfl,fun _ _ e _=>.inl e,fun _ _=>rfl,z.size,rfl⟩
 · intro t u st e
   rw[q] at e
   simp only[sv] at e
   split at e<;>simp only[an,gU,reduceCtorEq] at e
   rename_i L A
   obtain⟨rfl,rfl⟩:=e
   obtain⟨x,a,b⟩:=z.get t _ A
   exact⟨x,a,b.mono k⟩
 · intro id o st e
   rw[d] at e
   simp only[ov] at e
   split at e<;>simp only[an,gU,reduceCtorEq] at e
   rename_i o' B
   obtain⟨rfl,rfl⟩:=e
   obtain⟨l,a,b,c⟩:=hi.ob id _ B
   exact⟨l,f a,b,c.mono k⟩
 · intro id s o o' st J l l' e r p C G
   rw[d] at e r
   simp only[ov] at e r
   split at e<;>simp only[an,gU,reduceCtorEq] at e
   rename_i o1 h
   split at r<;>simp only[an,gU,reduceCtorEq] at r
   rename_i o2 y
   exact hi.inj id s o1 o2 l l' h y p C G
 · intro id o st l e H I K
   rw[d] at e
   simp only[ov] at e
   split at e<;>simp only[an,gU,reduceCtorEq] at e
   rename_i o1 h
   exact⟨id,o1,l,h,H,I,rfl⟩
theorem BO.lt {f:Nat→Nat→Bool}(h:BO ops f):∀ i j,f i j=true→j<i:=by
 intro i
 induction i using Nat.strongRecOn with
 | _ i k=>
   intro j l
   obtain⟨o,e,a,b,c,d⟩:=h.up i j l
   have:=h.low i o e a b c
   rcases d with d | d
   · omega
   · have:=k e.on this j d;omega
theorem DI.inst (h:DI P F0 S0 D E E' v ch)(I:mw P g F0 fr)(hi:Inv S0 g w) :
   ∃(d:Frame) (w' : World) (g' : Gh),d.mode=.run∧d.todo=[.inRegion D.ops [D.i]]∧Inv D.S g' w' ∧ ∀ t u,D.F.get t=some u→∃ x,d.tmps[t]? = some x∧VR g' u x:=by
 have m:=I.runs h.mode
 have J:=xR h.ok
 have key:∀ k,k≤D.i→∃(d:Frame) (w' : World) (g' : Gh),DJ D.ops F0 S0 E' v ch (fun j=>decide (j<k)) D.i g w fr g' w' d∧d.todo=[.inRegion D.ops (List.range' k (D.i+1-k))]:=by
   intro k
   induction k with
   | zero=>
     intro _
     exact⟨{ fr with todo:=[.inRegion D.ops (List.range' 0 (D.i+1-0))] },w,g,(DJ.init I hi _ _).congr fun j _=>by simp,rfl⟩
   | succ k K=>
     intro hk
     obtain⟨r,w1,A,a,b⟩:=K (by omega)
     rw[show D.i+1-k=(D.i+1-(k+1))+1 from by omega,List.range'_succ] at b
     obtain ⟨B,L,M,_,N,a2⟩:=a.step (cs:=[]) h.dp h.hi (fun i j O Q _ f R T C=>xQ h.ok i j O Q f R T C) (fun id o e=>hi.iZ e) (i:=k) (by omega) (by simp)
       (fun j f=>by
        have f:j<k:=by simpa using f
        exact⟨by omega,fun l U=>by have:=J.lt j l U;simp;omega⟩) (fun j f=>by have:=J.lt k j f;simpa using this) m b
     refine⟨B,L,M,a2.congr fun j _=>?_,N⟩
     by_cases e:j=k
     · subst e;rw[qa];simp
     · rw[nP _ e];simp only[decide_eq_decide];omega
 obtain⟨r,w1,A,a,b⟩:=key D.i (Nat.le_refl _)
 have y:=a.congr (Y:=fun _=>true) fun j f=>by simpa using f
 have s:r.mode=.run:=by rw[a.frame];exact m
 refine⟨r,w1,A,s,by rw[b,show D.i+1-D.i=1 from by omega];rfl,⟨y.ro,?_,?_,?_⟩,?_⟩
 · intro id o e
   rw[h.get] at e
   split at e<;>simp only[an,reduceCtorEq] at e
   rename_i o' st n
   subst e
   obtain⟨l,a,b,c⟩:=y.ob id _ st n
   exact⟨l,(Gh.jk a).2,b,c.mono (Gh.zJ _ _)⟩
 · intro id G o o' l l' e n p V W
   rw[h.get] at e n
   split at e<;>simp only[an,reduceCtorEq] at e
   rename_i o1 H Z
   split at n<;>simp only[an,reduceCtorEq] at n
   rename_i o2 z e2
   exact y.inj id G o1 o2 H z l l' Z e2 p V W
 · intro id aH
   cases e:A.ph id with
   | none=>rfl
   | some l=>
     exfalso
     rw[h.nx] at aH
     rcases y.YD id l e with q | ⟨j,q1,_,_,q3⟩
     · have:=lT h.dp (Nat.zero_le D.i) (Nat.le_refl _)
       have h0:nn S0 E' 0=S0.nx:=rfl
       omega
     · have:=lT h.dp (show j+1≤D.i by omega) (Nat.le_refl _)
       omega
 · intro t u e
   obtain⟨st,n⟩:=h.tn t u e
   obtain⟨x,a,b⟩:=y.tn t u st n
   exact⟨x,a,b.mono (Gh.zJ _ _)⟩
theorem Inv.less {A B:af}(c:A.nx=B.nx)(a:∀ id o,A.get id=some o→B.get id=some o)(h:Inv B g w):Inv A g w:=
 ⟨h.ro,fun id o e=>h.ob id o (a id o e),fun id b o o' l l' e d=>h.inj id b o o' l l' (a _ _ e) (a _ _ d),fun id aH=>h.fresh id (by rw[←c];exact aH)⟩
theorem DI.facts (h:DI P F0 S0 D E E' v ch)(l:mw P g F0 fr)(hi:Inv S0 g w)(m:D.os=o::os)(j:mL P D.ops o D.F.get En vn En')(n:En.nx=D.S.nx)(p:∀ id ob,En.get id=some ob→D.S.get id=some ob):Ic En En' := by
 obtain⟨k,w1,q,a,b,c,d⟩:=h.inst l hi
 obtain⟨s,y,x,_,_,r,f⟩:=j q w1 k [] D.i [] [] a b (h.here m).1 (fun t _ u e=>d t u e) (c.less n p)
 exact⟨f.nx,f.lim,f.rM,f.dead,fun id o e=>r.iZ e⟩
end
end Go.Eng
namespace Go.Eng
noncomputable section
theorem Ak (a b:sL)(id:Nat):nV (a++b) id=(nV a id||nV b id):=by
 induction a with
 | nil=>rfl
 | cons p r d=>
   obtain⟨k,o⟩:=p
   simp only[List.cons_append,nV]
   cases Nat.beq k id with
   | true=>rfl
   | false=>exact d
variable {c : sL} {id : Nat}
theorem pK (h:nV c id=true):∃ ob,(id,ob)∈c:=by
 induction c with
 | nil=>simp[nV] at h
 | cons p r b=>
   obtain⟨k,o⟩:=p
   simp only[nV] at h
   cases a:Nat.beq k id with
   | true=>
     have:k=id:=jj a
     subst this;exact⟨o,List.mem_cons_self ..⟩
   | false=>
     rw[a] at h
     obtain⟨ob,q⟩:=b h
     exact⟨ob,tf _ q⟩
theorem Xr {ob:Option ai}(h:(id,ob)∈c):nV c id=true:=by
 induction c with
 | nil=>simp at h
 | cons p r a=>
   obtain⟨k,o⟩:=p
   simp only[nV]
   rcases List.mem_cons.1 h with e | h
   · simp only[gU] at e
     rw[←e.1,Nat.beq_refl]
   · cases Nat.beq k id with
     | true=>rfl
     | false=>exact a h
def xB (c:sL)(G:af):Prop:=∀ id ob,(id,ob)∈c→Ok id∧∀ x,ob=some x→G.get id=some x
variable {G : af}
theorem xB.lt (h:xB c G)(e:nV c id=true):Ok id:=let ⟨ob,q⟩:=pK e;(h id ob q).1
theorem xB.append {a b:sL}(h:xB a G)(d:xB b G):xB (a++b) G:=by
 intro id ob e
 rcases List.mem_append.1 e with q | q
 · exact h id ob q
 · exact d id ob q
theorem rT (hi:Ok id):∀ {c:sL} {m:PT},(∀ k ob,(k,ob)∈c→Ok k)→nV c id=false→PT.get dep (qQ m c) id=PT.get dep m id:=by
 intro c
 induction c with
 | nil=>intro m _ _;rfl
 | cons p r f=>
   obtain⟨k,o⟩:=p
   intro m d h
   simp only[nV] at h
   split at h
   · simp at h
   · rename_i e
     simp only[qQ]
     rw[f (fun a b q=>d a b (tf _ q)) h]
     exact PT.ar dep m k id o (d k o (List.mem_cons_self ..)) hi (by rintro rfl;rw[Nat.beq_refl] at e;simp at e)
theorem zf (hi:Ok id):∀ {c:sL} {m:PT},(∀ k ob,(k,ob)∈c→Ok k)→nV c id=true→∃ ob,(id,ob)∈c∧PT.get dep (qQ m c) id=ob:=by
 intro c
 induction c with
 | nil=>intro m _ h;simp[nV] at h
 | cons p r f=>
   obtain⟨k,o⟩:=p
   intro m g h
   have d:∀ a b,(a,b)∈r→Ok a:=fun a b q=>g a b (tf _ q)
   simp only[qQ]
   cases e:nV r id with
   | true=>
     obtain⟨ob,i,j⟩:=f (m:=PT.set dep m k o) d e
     exact⟨ob,tf _ i,j⟩
   | false=>
     simp only[nV] at h
     split at h
     · rename_i l
       have:k=id:=jj l
       subst this
       refine⟨o,List.mem_cons_self .., ?_⟩
       rw[rT hi d e]
       exact PT.bn _ _ _ _
     · rw[e] at h;simp at h
variable {pi : Nat}
theorem Fv : ∀ {l:List (Nat×DU)},iu pi l id=true→∀ j c,(j,c)∈l→tb pi j=false→c.has id=false:=by
 intro l
 induction l with
 | nil=>intro _ j c h;simp at h
 | cons p r f=>
   obtain⟨k,d⟩:=p
   intro h j c hm a
   simp only[iu] at h
   have b:tb pi k=false→d.has id=false:=by
    intro e;rw[e] at h
    cases q:d.has id with
    | false=>rfl
    | true=>rw[q] at h;simp at h
   have g:iu pi r id=true:=by
    cases e:tb pi k with
    | true=>rw[e] at h;exact h
    | false=>rw[e,b e] at h;exact h
   rcases List.mem_cons.1 hm with e | hm
   · simp only[gU] at e;obtain⟨rfl,rfl⟩:=e;exact b a
   · exact f g j c hm a
theorem Hc : ∀ {l:List (Nat×af)},qo pi l id=true→∀ j E,(j,E)∈l→tb pi j=false→E.get id=none:=by
 intro l
 induction l with
 | nil=>intro _ j c h;simp at h
 | cons p r f=>
   obtain⟨k,d⟩:=p
   intro h j c hm a
   simp only[qo] at h
   have b:tb pi k=false→d.get id=none:=by
    intro e;rw[e] at h
    cases q:d.get id with
    | none=>rfl
    | some x=>rw[q] at h;simp at h
   have g:qo pi r id=true:=by
    cases e:tb pi k with
    | true=>rw[e] at h;exact h
    | false=>rw[e,b e] at h;exact h
   rcases List.mem_cons.1 hm with e | hm
   · simp only[gU] at e;obtain⟨rfl,rfl⟩:=e;exact b a
   · exact f g j c hm a
theorem nT {nx:Nat}{es:List (Nat×af)}:∀ {l:List Nat},jt pi es nx l=true→∀ id,id∈l→id<nx→qo pi es id=true:=by
 intro l
 induction l with
 | nil=>intro _ id h;simp at h
 | cons k r b=>
   intro h id hm a
   simp only[jt] at h
   have d:jt pi es nx r=true:=by
     split at h
     · exact h
     · split at h
       · exact h
       · simp at h
   rcases List.mem_cons.1 hm with rfl | hm
   · split at h
     · rename_i e
       have:=ed e
       omega
     · split at h
       · assumption
       · simp at h
   · exact b d id hm a
theorem Jy : ∀ {l:List (Nat×af)},xA pi l=true→∀ j E,(j,E)∈l→tb pi j=true:=by
 intro l
 induction l with
 | nil=>intro _ j E h;simp at h
 | cons p r a=>
   obtain⟨k,d⟩:=p
   intro h j E hm
   simp only[xA] at h
   split at h
   · rename_i e
     rcases List.mem_cons.1 hm with q | hm
     · simp only[gU] at q;obtain⟨rfl,rfl⟩:=q;exact e
     · exact a h j E hm
   · simp at h
variable {S : af} {o : ai}
theorem vV {jJ:List (Nat×DU)}(hi:Ok id):∀ {ids:List Nat} {m:PT},PT.get dep (seen S pi jJ ids m) id=some o →
   PT.get dep m id=some o∨(id∈ids∧S.get id=some o∧iu pi jJ id=true):=by
 intro ids
 induction ids with
 | nil=>intro m h;exact .inl h
 | cons k r b=>
   intro m h
   simp only[seen] at h
   have up:∀ {m},PT.get dep (seen S pi jJ r m) id=some o→PT.get dep m id=some o∨(id∈k::r∧S.get id=some o∧iu pi jJ id=true):=by
     intro m h
     rcases b h with q | ⟨d,f,g⟩
     · exact .inl q
     · exact .inr ⟨tf _ d,f,g⟩
   split at h
   · rename_i i
     split at h
     · rename_i ob a
       have j:=af.dG a
       rcases up h with q | q
       · by_cases e:k=id
         · subst e
           rw[PT.bn] at q
           simp only[an] at q
           subst q
           exact .inr ⟨List.mem_cons_self .., a,i⟩
         · rw[PT.ar dep m k id _ j hi e] at q
           exact .inl q
       · exact .inr q
     · exact up h
   · exact up h
theorem Mx (hi:Ok id):∀ {l:List Nat} {m:PT},(∀ k,k∈l→Ok k)→PT.get dep (iI m l) id=some o→id∉l∧PT.get dep m id=some o:=by
 intro l
 induction l with
 | nil=>intro m _ h;exact⟨by simp,h⟩
 | cons k r g=>
   intro m f h
   obtain⟨i,d⟩:=g (m:=PT.set dep m k none) (fun a b=>f a (tf _ b)) h
   by_cases e:k=id
   · subst e;rw[PT.bn] at d;simp at d
   · rw[PT.ar dep m k id _ (f k (List.mem_cons_self ..)) hi e] at d
     exact⟨by simp only[List.mem_cons,not_or];exact⟨fun q=>e q.symm,i⟩,d⟩
theorem Hd (hi:Ok id):∀ {l:List Nat} {m:PT},(∀ k,k∈l→Ok k)→PT.get dep (uM S m l) id=if id∈l then S.get id else PT.get dep m id:=by
 intro l
 induction l with
 | nil=>intro m _;simp[uM]
 | cons k r g=>
   intro m f
   simp only[uM]
   rw[g fun a b=>f a (tf _ b)]
   by_cases d:id∈r
   · rw[if_pos d,if_pos (tf _ d)]
   · rw[if_neg d]
     by_cases e:k=id
     · subst e;rw[PT.bn,if_pos (List.mem_cons_self ..)]
     · rw[PT.ar dep m k id _ (f k (List.mem_cons_self ..)) hi e,if_neg (by simp only[List.mem_cons,not_or];exact⟨fun q=>e q.symm,d⟩)]
theorem He : ∀ {l:List (Nat×DU)} {aH:List Nat},hidden pi l=some aH→(∀ j c,(j,c)∈l→tb pi j=false→∀ id,c.has id=true→id∈aH)∧∀ id,id∈aH→∃ j c,(j,DU.Nx c)∈l∧nV c id=true:=by
 intro l
 induction l with
 | nil=>intro aH h;simp only[hidden,an] at h;subst h;exact⟨fun j c q=>by simp at q,fun id q=>by simp at q⟩
 | cons p r s=>
   obtain⟨k,d⟩:=p
   intro aH h
   simp only[hidden] at h
   cases e:tb pi k with
   | true=>
     rw[e] at h
     obtain⟨i,m⟩:=s h
     refine⟨fun j c hm f id g=>?_,fun id hm=>let ⟨j,c,a,b⟩:=m id hm;⟨j,c,tf _ a,b⟩⟩
     rcases List.mem_cons.1 hm with q | hm
     · simp only[gU] at q;obtain⟨rfl,rfl⟩:=q;rw[e] at f;simp at f
     · exact i j c hm f id g
   | false=>
     rw[e] at h
     cases d with
     | wide a b=>simp at h
     | Nx c=>
       simp only at h
       cases n:hidden pi r with
       | none=>rw[n] at h;simp at h
       | some l=>
         rw[n] at h
         simp only[an] at h
         subst h
         obtain⟨i,m⟩:=s n
         refine⟨fun j c' hm f id g=>?_,fun id hm=>?_⟩
         · rcases List.mem_cons.1 hm with q | hm
           · simp only[gU] at q;obtain⟨rfl,rfl⟩:=q
             obtain⟨ob,q⟩:=pK (show nV c id=true from g)
             exact List.mem_append.2 (.inl (List.mem_map.2 ⟨_,q,rfl⟩))
           · exact List.mem_append.2 (.inr (i j c' hm f id g))
         · rcases List.mem_append.1 hm with q | q
           · obtain⟨⟨t,ob⟩,a,b⟩:=List.mem_map.1 q
             simp only at b;subst b
             exact⟨k,c,List.mem_cons_self .., Xr a⟩
           · obtain⟨j,c', a,b⟩:=m id q
             exact⟨j,c', tf _ a,b⟩
variable {E : af}
theorem Al : ∀ {ids:List Nat} {id:Nat} {ob:Option ai},(id,ob)∈mO E S ids→id∈ids∧E.get id≠none∧ob=S.get id:=by
 intro ids
 induction ids with
 | nil=>intro id ob h;simp[mO] at h
 | cons k r d=>
   intro id ob h
   simp only[mO] at h
   split at h
   · rename_i x hx
     rcases List.mem_cons.1 h with q | h
     · simp only[gU] at q
       obtain⟨rfl,rfl⟩:=q
       exact⟨List.mem_cons_self .., by rw[hx];simp,rfl⟩
     · obtain⟨a,b⟩:=d h;exact⟨tf _ a,b⟩
   · obtain⟨a,b⟩:=d h;exact⟨tf _ a,b⟩
theorem Jz : ∀ {ids:List Nat} {id:Nat},id∈ids→E.get id≠none→nV (mO E S ids) id=true:=by
 intro ids
 induction ids with
 | nil=>intro id h;simp at h
 | cons k r b=>
   intro id h a
   simp only[mO]
   cases e:E.get k with
   | some x=>
     simp only[nV]
     cases d:Nat.beq k id with
     | true=>rfl
     | false=>
       rcases List.mem_cons.1 h with rfl | h
       · rw[Nat.beq_refl] at d;simp at d
       · exact b h a
   | none=>
     rcases List.mem_cons.1 h with rfl | h
     · exact absurd e a
     · exact b h a
theorem uY {n:Nat}:∀ {k id:Nat} {ob:Option ai},(id,ob)∈rG E n k→n≤id∧id<n+k∧E.get id≠none∧ob=E.get id:=by
 intro k
 induction k with
 | zero=>intro id ob h;simp[rG] at h
 | succ k d=>
   intro id ob h
   simp only[rG] at h
   split at h
   · rename_i x hx
     rcases List.mem_cons.1 h with q | h
     · simp only[gU] at q
       obtain⟨rfl,rfl⟩:=q
       exact⟨by omega,by omega,by rw[hx];simp,hx.symm⟩
     · obtain⟨a,b,c⟩:=d h;exact⟨a,by omega,c⟩
   · obtain⟨a,b,c⟩:=d h;exact⟨a,by omega,c⟩
variable {lo : Nat}
theorem My {a:sL}(h:QS E lo a id=some o):lo≤id∧E.get id=some o:=by
 unfold QS at h
 split at h<;>try (simp at h;done)
 rename_i h1
 split at h<;>try (simp at h;done)
 exact⟨ed h1,h⟩
theorem nI : ∀ {n:Nat} {l:List AV} {b:sL} {id:Nat} {ob:Option ai},(id,ob)∈iC E lo n l b→(id,ob)∈b∨(lo≤id∧E.get id≠none∧ob=E.get id):=by
 intro n
 induction n with
 | zero=>intro l b id ob h;exact .inl (by cases l<;>exact h)
 | succ n d=>
   intro l b id ob h
   cases l with
   | nil=>exact .inl h
   | cons v r=>
     simp only[iC] at h
     split at h
     · exact d h
     · split at h
       · rename_i o e
         obtain⟨a,c⟩:=My e
         rcases d h with q | q
         · rcases List.mem_cons.1 q with q | q
           · simp only[gU] at q
             obtain⟨rfl,rfl⟩:=q
             exact .inr ⟨a,by rw[c];simp,c.symm⟩
           · exact .inl q
         · exact .inr q
       · exact d h
section
variable {P : Program} {F0 : ad} {S0 : af} {D : rC} {E E' : Nat → af} {v : Nat → AV} {ch : Nat → Nat → Option (Option ai)} {o : Oper} {os : List Oper}
theorem DI.clear (h:DI P F0 S0 D E E' v ch)(d:iu pi D.jJ id=true):∀ j,j<D.i→tb pi j=false→ch j id=none:=by
 intro j f g
 cases e:ch j id with
 | none=>rfl
 | some r=>
   obtain⟨c,a,b⟩:=h.jJ j f id (by rw[e];simp)
   rw[Fv d j c a g] at b
   simp at b
theorem DI.abv (h:DI P F0 S0 D E E' v ch)(a:qo pi D.es id=true):∀ j,j<D.i→tb pi j=false→(E j).get id=none:=by
 intro j b d
 cases e:(E j).get id with
 | none=>rfl
 | some r=>
   have:=Hc a j _ (h.es j b id (by rw[e];simp)) d
   rw[e] at this;simp at this
theorem DI.next (h:DI P F0 S0 D E E' v ch)(H:D.os=o::os){En En' : af}{vn:AV}{c:sL}{Eo:Option af}
   (y:mL P D.ops o D.F.get En vn En') (z:En.nx=D.S.nx) (n:En.nx≤En'.nx) (u:D.S.lim≤En.lim)
   (w:∀ id ob,En.get id=some ob→D.S.get id=some ob∧∀ j,j<D.i→tb (al D.dX o.after.toList) j=false→ch j id=none)
   (I:∀ id,nV c id=true→id<D.S.nx→qo (al D.dX o.after.toList) D.es id=true)
   (d:xB c En') (J:∀ id ob,En.get id=some ob→En.lim≤id→nV c id=true)
   (C:∀ id,nV c id=true→En.lim≤id∧id<En'.nx∧(En.get id≠none∨En.nx≤id))
   (A:Eo=some En∨(Eo=none∧∀ id,En.get id=none)) :
   ∃ E E' v ch,DI P F0 S0 (D.next o os (al D.dX o.after.toList) vn En'.nx c Eo) E E' v ch:=by
 have t:∀ k ob,(k,ob)∈c→Ok k:=fun k ob q=>(d k ob q).1
 obtain⟨chn,g⟩:∃ f:Nat→Option (Option ai),f=fun id=>if nV c id=true then some (PT.get dep (qQ D.S.m c) id) else none:=⟨_,rfl⟩
 have h1:∀ id,chn id≠none→nV c id=true:=by
   intro id e
   rw[g] at e
   by_cases q:nV c id=true
   · exact q
   · exact absurd (if_neg q) e
 have h2:∀ id,nV c id=true→chn id=some (PT.get dep (qQ D.S.m c) id):=by intro id q;rw[g];simp[q]
 refine⟨_,_,_,_,h.step H (chn:=chn) (vn:=vn) rfl y z n u w ?_ ?_ ?_ ?_ ?_ rfl rfl rfl rfl rfl rfl rfl ?_ ?_ ?_ ?_ ?_ ?_⟩
 · intro j K L id e B
   exact h.abv (I id (h1 id e) B) j K L
 · intro id ob e
   have l:=h1 id (by rw[e];simp)
   rw[h2 id l] at e
   obtain⟨ob', a,b⟩:=zf (m:=D.S.m) (d.lt l) t l
   rw[b] at e
   simp only[an] at e
   exact(d id ob' a).2 ob e
 · intro id ob e M
   rw[h2 id (J id ob e M)];simp
 · intro id e
   obtain⟨a,b,_⟩:=C id (h1 id e)
   exact⟨a,b⟩
 · intro id e
   exact(C id (h1 id e)).2.2
 · intro id
   by_cases aH:Ok id
   · rw[af.bK aH]
     show PT.get dep (qQ D.S.m c) id=_
     cases q:nV c id with
     | true=>rw[h2 id q]
     | false=>
       rw[rT aH t q]
       have:chn id=none:=by rw[g];simp[q]
       rw[this]
       exact(af.bK aH).symm
   · rw[af.fG aH]
     cases q:chn id with
     | none=>exact(af.fG aH).symm
     | some r=>exact absurd (d.lt (h1 id (by rw[q];simp))) aH
 · intro id e
   have l:=h1 id e
   refine⟨.Nx c,?_,l⟩
   simp only[rC.next,KI,wT]
   cases c with
   | nil=>simp[nV] at l
   | cons p r=>exact List.mem_cons_self ..
 · intro p s
   simp only[rC.next,KI,wT]
   cases c with
   | nil=>exact s
   | cons q r=>exact tf _ s
 · intro j c' x id l
   simp only[rC.next,KI,wT] at x
   cases c with
   | nil=>exact h.small j c' x id l
   | cons q r=>
     rcases List.mem_cons.1 x with e | e
     · simp only[gU,DU.Nx.injEq] at e
       obtain⟨rfl,rfl⟩:=e
       exact d.lt l
     · exact h.small j c' e id l
 · intro id e
   rcases A with rfl | ⟨rfl,q⟩
   · exact List.mem_cons_self ..
   · exact absurd (q id) e
 · intro p s
   simp only[rC.next,KI,wT]
   cases Eo with
   | none=>exact s
   | some _=>exact tf _ s
theorem DI.LO (h:DI P F0 S0 D E E' v ch):D.S.lim≤D.S.nx:=by
 have:=lT h.dp (Nat.zero_le D.i) (Nat.le_refl _)
 have h0:nn S0 E' 0=S0.nx:=rfl
 have:=h.Zw
 rw[h.lim,h.nx];omega
theorem DI.news (h:DI P F0 S0 D E E' v ch)(z:∀ id o,S0.get id=some o→id<S0.nx)(A:D.os=o::os){En En' : af}{vn:AV}{ids:List Nat}{nw:sL}{Eo:Option af}
   (s:mL P D.ops o D.F.get En vn En') (r:Ic En En') (k:En.nx=D.S.nx) (d:En.lim=D.S.lim∨En.lim=D.S.nx)
   (f:∀ id ob,En.get id=some ob→D.S.get id=some ob∧∀ j,j<D.i→tb (al D.dX o.after.toList) j=false→ch j id=none)
   (n:∀ id ob,En.get id=some ob→En.lim≤id→id<En.nx→id∈ids) (p:∀ id,id∈ids→En.get id≠none→En.lim≤id)
   (t:∀ id,id∈ids→En.get id≠none→id<D.S.nx→qo (al D.dX o.after.toList) D.es id=true)
   (l:∀ id ob,(id,ob)∈nw→En.nx≤id∧En'.get id≠none∧ob=En'.get id)
   (u:Eo=some En∨(Eo=none∧∀ id,En.get id=none)) :
   ∃ E E' v ch,DI P F0 S0 (D.next o os (al D.dX o.after.toList) vn En'.nx (mO En En' ids++nw) Eo) E E' v ch:=by
 have C:=h.LO
 have g:∀ {id},nV (mO En En' ids++nw) id=true→(id∈ids∧En.get id≠none)∨(En.nx≤id∧En'.get id≠none):=by
   intro id e
   rw[Ak,Bool.or_eq_true] at e
   rcases e with e | e
   · obtain⟨ob,q⟩:=pK e
     obtain⟨a,b,_⟩:=Al q
     exact .inl ⟨a,b⟩
   · obtain⟨ob,q⟩:=pK e
     obtain⟨a,b,_⟩:=l id ob q
     exact .inr ⟨a,b⟩
 have m:∀ {id},En.get id≠none→id<En.nx:=by
   intro id e
   cases q:En.get id with
   | none=>exact absurd q e
   | some ob=>rw[k];exact h.wf z (f id ob q).1
 refine h.next A s k r.nx (by rcases d with e | e<;>omega) f ?_ ?_ ?_ ?_ u
 · intro id e w
   rcases g e with⟨a,b⟩ | ⟨a,_⟩
   · exact t id a b w
   · omega
 · refine xB.append (fun id ob q=>?_) fun id ob q=>?_
   · obtain⟨a,b,c⟩:=Al q
     refine⟨?_,fun x hx=>by rw[←c];exact hx⟩
     cases e:En.get id with
     | none=>exact absurd e b
     | some y=>exact af.dG e
   · obtain⟨a,b,c⟩:=l id ob q
     refine⟨?_,fun x hx=>by rw[←c];exact hx⟩
     cases e:En'.get id with
     | none=>exact absurd e b
     | some y=>exact af.dG e
 · intro id ob e B
   rw[Ak,Jz (n id ob e B (m (by rw[e];simp))) (by rw[e];simp),Bool.true_or]
 · intro id e
   rcases g e with⟨a,b⟩ | ⟨a,b⟩
   · exact⟨p id a b,Nat.lt_of_lt_of_le (m b) r.nx,.inl b⟩
   · refine⟨by rcases d with q | q<;>omega,?_,.inr a⟩
     cases q:En'.get id with
     | none=>exact absurd q b
     | some y=>exact r.wf id y q
theorem EB (hi:Ok id):∀ {l:List Nat} {m:PT},(∀ k,k∈l→Ok k)→PT.get dep (iI m l) id=if id∈l then none else PT.get dep m id:=by
 intro l
 induction l with
 | nil=>intro m _;simp[iI]
 | cons k r g=>
   intro m f
   simp only[iI]
   rw[g fun a b=>f a (tf _ b)]
   by_cases d:id∈r
   · rw[if_pos d,if_pos (tf _ d)]
   · rw[if_neg d]
     by_cases e:k=id
     · subst e;rw[PT.bn,if_pos (List.mem_cons_self ..)]
     · rw[PT.ar dep m k id _ (f k (List.mem_cons_self ..)) hi e,if_neg (by simp only[List.mem_cons,not_or];exact⟨fun q=>e q.symm,d⟩)]
theorem DI.aH (h:DI P F0 S0 D E E' v ch){pi:Nat}{aH:List Nat}(hh:hidden pi D.jJ=some aH) :
   (∀ k,k∈aH→Ok k)∧(∀ id,id∉aH→∀ j,j<D.i→tb pi j=false→ch j id=none)∧∀ nx lim id,(⟨nx,lim,iI D.S.m aH⟩:af).get id=if id∈aH then none else D.S.get id:=by
 obtain⟨f,g⟩:=He hh
 have d:∀ k,k∈aH→Ok k:=fun k l=>let ⟨j,c,a,b⟩:=g k l;h.small j c a k b
 refine⟨d,fun id n j p q=>?_,fun nx lim id=>?_⟩
 · cases e:ch j id with
   | none=>rfl
   | some r=>
     obtain⟨c,a,b⟩:=h.jJ j p id (by rw[e];simp)
     exact absurd (f j c a q id b) n
 · by_cases hi:Ok id
   · rw[af.bK hi]
     show PT.get dep (iI D.S.m aH) id=_
     rw[EB hi d,af.bK hi]
   · rw[af.fG hi]
     split
     · rfl
     · exact(af.fG hi).symm
theorem DI.wide (h:DI P F0 S0 D E E' v ch)(A:∀ id o,S0.get id=some o→id<S0.nx)(C:D.os=o::os){aH:List Nat}{d:af}{vn:AV}(hh:hidden (al D.dX o.after.toList) D.jJ=some aH)(H:xA (al D.dX o.after.toList) D.es=true)
   (w:mL P D.ops o D.F.get ⟨D.S.nx,D.S.lim,iI D.S.m aH⟩ vn d) (n:Ic ⟨D.S.nx,D.S.lim,iI D.S.m aH⟩ d) :
   ∃ E E' v ch,DI P F0 S0 (D.Lp o os ⟨D.S.nx,D.S.lim,iI D.S.m aH⟩ (al D.dX o.after.toList) aH vn d) E E' v ch:=by
 obtain⟨x,y,z⟩:=h.aH hh
 generalize l:(⟨D.S.nx,D.S.lim,iI D.S.m aH⟩:af)=En at *
 have k:En.nx=D.S.nx:=by rw[←l]
 have O:En.lim=D.S.lim:=by rw[←l]
 have t:∀ id,En.get id=if id∈aH then none else D.S.get id:=fun id=>by rw[←l];exact z _ _ id
 have i:∀ {id ob},En.get id=some ob→id∉aH∧D.S.get id=some ob:=by
   intro id ob e
   rw[t] at e
   split at e
   · simp at e
   · exact⟨by assumption,e⟩
 obtain⟨chn,g⟩:∃ f:Nat→Option (Option ai),f=fun id=>if id∉aH∧D.S.lim≤id∧id<d.nx∧(En.get id≠none∨En.nx≤id) then some (d.get id) else none:=⟨_,rfl⟩
 have h1:∀ id,chn id≠none→id∉aH∧D.S.lim≤id∧id<d.nx∧(En.get id≠none∨En.nx≤id):=by
   intro id e
   rw[g] at e
   by_cases q:id∉aH∧D.S.lim≤id∧id<d.nx∧(En.get id≠none∨En.nx≤id)
   · exact q
   · exact absurd (if_neg q) e
 have h2:∀ id,(id∉aH∧D.S.lim≤id∧id<d.nx∧(En.get id≠none∨En.nx≤id))→chn id=some (d.get id):=by intro id q;rw[g];exact if_pos q
 have h3:∀ id,¬ (id∉aH∧D.S.lim≤id∧id<d.nx∧(En.get id≠none∨En.nx≤id))→chn id=none:=by intro id q;rw[g];exact if_neg q
 refine⟨_,_,_,_,h.step C (chn:=chn) (vn:=vn) rfl w k n.nx (by omega) ?_ ?_ ?_ ?_ ?_ ?_ rfl rfl rfl rfl rfl rfl rfl ?_ ?_ ?_ ?_ ?_ ?_⟩
 · intro id ob e
   obtain⟨a,b⟩:=i e
   exact⟨b,y id a⟩
 · intro j I J id _ _
   cases e:(E j).get id with
   | none=>rfl
   | some r=>
     have:=Jy H j _ (h.es j I id (by rw[e];simp))
     rw[J] at this;simp at this
 · intro id ob e
   rw[h2 id (h1 id (by rw[e];simp))] at e
   simpa using e
 · intro id ob e Q
   obtain⟨a,b⟩:=i e
   rw[h2 id ⟨a,by omega,Nat.lt_of_lt_of_le (by rw[k];exact h.wf A b) n.nx,.inl (by rw[e];simp)⟩]
   simp
 · intro id e
   obtain⟨_,a,b,_⟩:=h1 id e
   exact⟨by omega,b⟩
 · intro id e
   exact(h1 id e).2.2.2
 · intro id
   show(⟨d.nx,D.S.lim,uM D.S d.m aH⟩:af).get id=_
   by_cases hi:Ok id
   · rw[af.bK hi]
     show PT.get dep (uM D.S d.m aH) id=_
     rw[Hd hi x]
     by_cases q:id∈aH
     · rw[if_pos q,h3 id (fun c=>c.1 q)]
     · rw[if_neg q,←af.bK hi (s:=d)]
       have B:En.get id=D.S.get id:=by rw[t,if_neg q]
       by_cases c:id∉aH∧D.S.lim≤id∧id<d.nx∧(En.get id≠none∨En.nx≤id)
       · rw[h2 id c]
       · rw[h3 id c]
         by_cases l1:id<D.S.lim
         · simp only[n.rM id (by omega),B]
         · by_cases l2:id<d.nx
           · have l3:En.get id=none∧id<En.nx:=by
              refine⟨?_,?_⟩
              · cases e:En.get id with
                | none=>rfl
                | some _=>exact absurd ⟨q,by omega,l2,.inl (by rw[e];simp)⟩ c
              · refine Nat.lt_of_not_le fun e=>c ⟨q,by omega,l2,.inr e⟩
             rw[n.dead id l3.2 l3.1,←B,l3.1]
           · have K:d.get id=none:=by
              cases e:d.get id with
              | none=>rfl
              | some o=>exact absurd (n.wf id o e) l2
             have L:D.S.get id=none:=by
              cases e:D.S.get id with
              | none=>rfl
              | some o=>exact absurd (Nat.lt_of_lt_of_le (h.wf A e) (by have:=n.nx;omega)) l2
             rw[K,L]
   · rw[af.fG hi]
     cases q:chn id with
     | none=>exact(af.fG hi).symm
     | some r=>
       have:=h2 id (h1 id (by rw[q];simp))
       rw[q] at this
       simp only[an] at this
       subst this
       exact(af.fG hi).symm
 · intro id e
   obtain⟨_,a,b,_⟩:=h1 id e
   refine⟨.wide D.S.lim d.nx,List.mem_cons_self .., ?_⟩
   simp only[DU.has]
   rw[sr a]
   exact sr b
 · intro p u;exact tf _ u
 · intro j c M id N
   rcases List.mem_cons.1 M with e | e
   · simp at e
   · exact h.small j c e id N
 · intro id e;exact List.mem_cons_self ..
 · intro p u;exact tf _ u
end
end
end Go.Eng
namespace Go.Eng
noncomputable section
def cq (T:FT)(P:Program):Prop:=∀ f e,FT.look T f=some e→P.funcs[f]? = some e.fn∧e.fn.body=some e.body∧mb P f=true ∧
 ∀ x,e.ext=some x→∀ args S v S', x args S=some (v,S')→cL P f args S fun r a=>r=.ret v∧a=S'
def GK (P:Program)(k:cu)(fn:Func)(Q:gI→cQ→af→Prop):ad→af→Prop:=
 match lr k with
 | some id=>fun F' S' => D6 id F' S' fun r a=>Q r .run a
 | none=>match k with
   | .hole G=>G
   | _=>Fin P fn Q
def nZ (P:Program)(D:rC)(k:cu)(Q:gI→cQ→af→Prop):Prop:=
 ∀ a S0,(∃ E h v j,DI P a S0 D E h v j)→Reach P a S0 (GK P k D.fn Q)
def fh (P:Program)(Qf:gI→af→Prop):cu→((gI→cQ→af→Prop)→Prop)→Prop
 | .nil,A=>A fun r _ S=>Qf r S
 | .hole _,A=>A fun _ _ _=>False
 | .call fn F o all rest td next,A=>fh P Qf next fun Q=>A fun r _ S=>Reach P (F.back o all rest td r) S (GK P next fn Q)
 | .pY fn F ds next,A=>fh P Qf next fun Q=>A fun r cm S=>Reach P { F with defers:=ds,mode:=ia r cm } S (GK P next fn Q)
 | .loop fn F d l td next,A=>fh P Qf next fun Q=>A fun r _ S=>Reach P (F.nB d l td r) S (GK P next fn Q)
 | .round fn F o all rest td _ next,A=>fh P Qf next fun Q=>A fun r _ S=>Reach P (F.back o all rest td r) S (GK P next fn Q)
 | .e9 D o os E pi aH _ next,A=>∃ v a,A (fun r _ S=>r=.ret v∧S=a)∧fh P Qf next fun Q=>nZ P (D.iJ o os E pi aH v a) next Q
def aA (P:Program)(Qf:gI→af→Prop):St→Prop
 | .run fn F S k=>fh P Qf k fun Q=>Reach P F S (GK P k fn Q)
 | .e9 D k=>fh P Qf k fun Q=>nZ P D k Q
 | .done r S=>Qf r S
 | .fork fn k l=>∀ F S,(F,S)∈l→fh P Qf k fun Q=>Reach P F S (GK P k fn Q)
 | .bad _=>False
section
variable {T : FT} {P : Program} {Qf : gI → af → Prop}
theorem fh.mono : ∀ {k:cu} {A j:(gI→cQ→af→Prop)→Prop},(∀ Q,A Q→j Q)→fh P Qf k A→fh P Qf k j:=by
 intro k
 induction k with
 | nil=>intro A j h q;exact h _ q
 | hole G=>intro A j h q;exact h _ q
 | call fn F o all rest td next m=>intro A j h q;exact m (fun Q=>h _) q
 | pY fn F ds next m=>intro A j h q;exact m (fun Q=>h _) q
 | loop fn F d l td next m=>intro A j h q;exact m (fun Q=>h _) q
 | round fn F o all rest td id next m=>intro A j h q;exact m (fun Q=>h _) q
 | e9 D o os E pi aH p next m=>intro A j h q;obtain⟨v,n,a,b⟩:=q;exact⟨v,n,h _ a,b⟩
variable {fn : Func} {F : ad} {S S' : af} {k : cu}
theorem aA.reach {F' : ad}(h:∀ G,Reach P F' S' G→Reach P F S G)(q:aA P Qf (.run fn F' S' k)):aA P Qf (.run fn F S k):=fh.mono (fun _=>h _) q
variable {Q Q' : gI → cQ → af → Prop}
theorem GK.mono (h:∀ r cm S,Q r cm S→Q' r cm S)(q:GK P k fn Q F S):GK P k fn Q' F S:=by
 unfold GK at *
 cases p:lr k with
 | none=>
   rw[p] at q
   have key:∀ {Q Q' : gI→cQ→af→Prop},(∀ r cm S,Q r cm S→Q' r cm S)→Fin P fn Q F S→Fin P fn Q' F S:=by
     intro Q Q' h q
     obtain⟨a,b⟩:=q
     refine⟨a,?_⟩
     rcases b with⟨b,v,c,d⟩ | ⟨l,b,c⟩
     · exact .inl ⟨b,v,c,h _ _ _ d⟩
     · exact .inr ⟨l,b,h _ _ _ c⟩
   cases k with
   | hole G=>exact q
   | _=>exact key h q
 | some id=>
   rw[p] at q
   obtain⟨a,b⟩:=q
   refine⟨a,?_⟩
   rcases b with⟨b,st,j,f,n,mask,env,params,assign,body,c,d,e⟩ | ⟨l,b,c⟩
   · refine .inl ⟨b,st,j,f,n,mask,env,params,assign,body,c,d,?_⟩
     rcases e with⟨e,m⟩ | ⟨c', e,m⟩
     · exact .inl ⟨e,h _ _ _ m⟩
     · exact .inr ⟨c', e,h _ _ _ m⟩
   · exact .inr ⟨l,b,h _ _ _ c⟩
theorem Reach.cons (a:∀ r cm S,Q r cm S→Q' r cm S)(h:Reach P F S (GK P k fn Q)):Reach P F S (GK P k fn Q'):=
 h.mono fun _ _ q=>q.mono a
theorem fh.ends {p:gI→af→Prop}(t:∀ r S,Qf r S→p r S):∀ {k:cu} {A:(gI→cQ→af→Prop)→Prop},(∀ Q Q', (∀ r cm S,Q r cm S→Q' r cm S)→A Q→A Q')→fh P Qf k A→fh P p k A:=by
 intro k
 induction k with
 | nil=>intro A j h;exact j _ _ (fun r _ S q=>t r S q) h
 | hole G=>intro A j h;exact j _ _ (fun r _ S q=>q) h
 | call fn F o all rest td next m=>intro A j h;exact m (fun Q Q' n=>j _ _ fun r cm S q=>q.cons n) h
 | pY fn F ds next m=>intro A j h;exact m (fun Q Q' n=>j _ _ fun r cm S q=>q.cons n) h
 | loop fn F d l td next m=>intro A j h;exact m (fun Q Q' n=>j _ _ fun r cm S q=>q.cons n) h
 | round fn F o all rest td id next m=>intro A j h;exact m (fun Q Q' n=>j _ _ fun r cm S q=>q.cons n) h
 | e9 D o os E pi aH y next m=>
   intro A j h
   obtain⟨v,u,a,b⟩:=h
   exact⟨v,u,a,m (fun Q Q' n q w S0 x=>(q w S0 x).cons n) b⟩
theorem fh.all {ι:Type}:∀ {k:cu} {A:ι→(gI→cQ→af→Prop)→Prop},flat k=true→(∀ i,fh P Qf k (A i))→fh P Qf k fun Q=>∀ i,A i Q:=by
 intro k
 induction k with
 | nil=>intro A _ h;exact h
 | hole G=>intro A _ h;exact h
 | call fn F o all rest td next j=>intro A a h;exact j (A:=fun i Q=>A i _) a h
 | pY fn F ds next j=>intro A a h;exact j (A:=fun i Q=>A i _) a h
 | loop fn F d l td next j=>intro A a h;exact j (A:=fun i Q=>A i _) a h
 | round fn F o all rest td id next j=>intro A a h;exact j (A:=fun i Q=>A i _) a h
 | e9 D o os E pi aH m next j=>intro A a h;simp[flat] at a
variable {r : gI} {cm : cQ}
theorem zU (h:aA P Qf (back r cm S k)):fh P Qf k fun Q=>Q r cm S:=by
 cases k with
 | nil=>exact h
 | hole G=>exact h.elim
 | call fn F o all rest td next=>
   simp only[back,zT] at h
   exact h
 | pY fn F ds next=>exact h
 | loop fn F d l td next=>exact h
 | round fn F o all rest td id next=>
   cases r with
   | ret v=>exact h.elim
   | th l=>simp only[back,zT] at h;exact h
 | e9 D o os E pi aH a next=>
   cases a with
   | some id=>exact h.elim
   | none=>
     cases r with
     | th l=>exact h.elim
     | ret v=>exact⟨v,S,⟨rfl,rfl⟩,h⟩
variable {id : Nat}
theorem OW (h:lr k=some id):back r cm S k=back r .run S k:=by
 cases k with
 | nil=>simp[lr] at h
 | hole G=>simp[lr] at h
 | call fn F o all rest td next=>simp[lr] at h
 | pY fn F ds next=>simp[lr] at h
 | loop fn F d l td next=>simp[lr] at h
 | round fn F o all rest td id next=>cases r<;>rfl
 | e9 D o os E pi aH a next=>
   cases a with
   | none=>simp[lr] at h
   | some id=>rfl
variable {v : AV}
theorem Mz (h:lr k=some id)(j:aA P Qf (back (.ret v) cm S k)):False:=by
 cases k with
 | nil=>simp[lr] at h
 | hole G=>simp[lr] at h
 | call fn F o all rest td next=>simp[lr] at h
 | pY fn F ds next=>simp[lr] at h
 | loop fn F d l td next=>simp[lr] at h
 | round fn F o all rest td id next=>exact j
 | e9 D o os E pi aH a next=>
   cases a with
   | none=>simp[lr] at h
   | some id=>exact j
theorem GK.fin (a:lr k=none)(h:∀ G,k ≠ .hole G):GK P k fn Q=Fin P fn Q:=by
 unfold GK
 rw[a]
 cases k with
 | hole G=>exact absurd rfl (h G)
 | _=>rfl
theorem MA {m:cQ}(j:F.mode=m)(n:F.defers=[])(h:aA P Qf (NN P fn F S k m)):aA P Qf (.run fn F S k):=by
 cases m with
 | run=>exact h.elim
 | returning=>
   simp only[NN,Zu] at h
   cases p:rP P fn F S with
   | none=>rw[p] at h;exact h.elim
   | some v=>
     rw[p] at h
     cases a:lr k with
     | some id=>exact(Mz a h).elim
     | none=>
       have t:∀ G,k ≠ .hole G:=by rintro G rfl;exact h.elim
       refine fh.mono (fun Q q=>Reach.done ?_) (zU h)
       rw[GK.fin a t]
       exact⟨n,.inl ⟨j,v,p,q⟩⟩
 | panicking l=>
   simp only[NN] at h
   cases a:lr k with
   | none=>
     have t:∀ G,k ≠ .hole G:=by rintro G rfl;exact h.elim
     refine fh.mono (fun Q q=>Reach.done ?_) (zU h)
     rw[GK.fin a t]
     exact⟨n,.inr ⟨l,j,q⟩⟩
   | some id=>
     rw[OW a] at h
     refine fh.mono (fun Q q=>Reach.done ?_) (zU h)
     simp only[GK,a]
     exact⟨n,.inr ⟨l,j,q⟩⟩
theorem EC (n:cq T P)(m:F.mode ≠ .run){ds:List fT}(a:F.defers=ds)(h:aA P Qf (NO T P fn F S k ds)):aA P Qf (.run fn F S k):=by
 cases ds with
 | nil=>exact MA rfl a h
 | cons d ds=>
   cases d with
   | call f cap args=>
     simp only[NO,Zv] at h
     cases j:FT.look T f with
     | none=>rw[j] at h;exact h.elim
     | some e=>
       rw[j] at h
       obtain⟨t1,t2,_,_⟩:=n f e j
       refine fh.mono (fun Q q=>?_) h
       exact Reach.unwind (Q:=fun r cm S' => Reach P { F with defers:=ds,mode:=ia r cm } S' (GK P k fn Q)) m a (abV.nO e.mask t1 t2 q) fun r cm S' q=>q
   | lF id=>
     simp only[NO,P3] at h
     split at h
     · rename_i p t
       exact aA.reach (fun G q=>Reach.lF m a p (ed t) q) h
     · exact h.elim
   | rJ bs=>exact h.elim
variable {op : Op} {c : Call}
theorem xS (h:gE op=some c):op=.call c∧∀ b,c.callee ≠ .builtin b:=by
 cases op with
 | call c' =>
   simp only[gE] at h
   split at h<;>simp only[an,reduceCtorEq] at h
   rename_i a
   subst h
   exact⟨rfl,a⟩
 | _=>simp[gE] at h
theorem gr (h:gE op=some c):bG op=false:=by
 obtain⟨rfl,a⟩:=xS h
 simp only[bG]
 split
 · rename_i e;exact absurd e (a _)
 · rfl
variable {g : Nat} {e : wQ} {args : List AV}
theorem mh (u:cq T P)(x:gE op=some c)(h:ql T F c P=some (g,e,args)) :
   FT.look T g=some e∧∀ S,fK P F.eval S op=some (.call g args):=by
 obtain⟨rfl,z⟩:=xS x
 unfold ql at h
 split at h<;>try (simp at h;done)
 rename_i as has
 split at h
 · rename_i f n
   split at h<;>try (simp at h;done)
   rotate_left
   · rename_i y _ j
     split at h<;>try (simp at h;done)
     rename_i g' l p
     split at h<;>simp only[an,gU,reduceCtorEq] at h
     rename_i w a
     obtain⟨rfl,rfl,rfl⟩:=h
     refine⟨a,fun S=>?_⟩
     obtain⟨m,t,v,first,cap,rfl,A,B,rfl⟩:=xM p
     simp only[fK,tr,has,n,j,p]
   rename_i g' first cap j
   split at h<;>simp only[an,gU,reduceCtorEq] at h
   rename_i w a
   obtain⟨rfl,rfl,rfl⟩:=h
   exact⟨a,fun S=>by simp only[fK,tr,has,n,j,(u _ _ a).2.2.1]⟩
 · rename_i r m n
   split at h<;>try (simp at h;done)
   rename_i t v q
   split at h<;>try (simp at h;done)
   rename_i g' b p
   split at h<;>simp only[an,gU,reduceCtorEq] at h
   rename_i w a
   obtain⟨rfl,rfl,rfl⟩:=h
   exact⟨a,fun S=>by simp only[fK,tr,has,n,q,p,(u _ _ a).2.2.1]⟩
 · simp at h
section
variable {fn : Func} {F : ad} {S : af} {k : cu} {all : Array Oper} {i : Nat} {rest : List Nat} {td : List ay} {o : Oper}
variable {G : ad → af → Prop} {l : List (AV × af)}
theorem Reach.It (K:F.mode=.run)(L:F.todo=.ops all (i::rest)::td)(H:all[i]? = some o)(M:qP F all o=some true)(q:bG o.op=false)(j:Em F S o.op=some l)(h:∀ v S', (v,S')∈l→Reach P (F.after o v all rest td) S' G):Reach P F S G:=by
 unfold Em at j
 split at j<;>try (simp at j;done)
 rename_i N p
 split at j<;>try (simp at j;done)
 rename_i a O
 intro g w fr u cs n x hi
 obtain⟨m,I,R⟩:=n.split L
 obtain⟨r,S', z,w', U,V,W,X,Y⟩:=Fl (P:=P) (t:=o.type) hi j (DT.of n N a O)
 have y:(execOp fr.eval o).run P w=.ok (.value z) w' := by
  obtain⟨dst,op,ty,pos,after,guard⟩:=o
  simp only at p
  subst p
  simp[execOp,V]
 obtain⟨J,Z,x3,x4⟩:=F.gP o r all rest td
 have A:=vS (P:=P) (cs:=cs) (fO (n.runs K) I H (ka n M) (.inr q)) y
 obtain⟨F2,S2,g2,w2,B,C,q', r1,r2,r3,r4,r5,r6,r7,r8⟩:=h r S' U g w' (fr.finish z) u cs ((n.after I R H W)) (x.congr J x4) X
 exact⟨F2,S2,g2,w2,B,C,q', r1,r2,r3.trans J,r4.trans Z,r5.trans x3,r6,Y.trans r7,Steps.head A r8⟩
theorem JA (h:(v,S')∈l):(mc F o v all rest td,S')∈Lt F o all rest td l:=by
 induction l with
 | nil=>simp at h
 | cons p r j=>
   obtain⟨a,b⟩:=p
   rcases List.mem_cons.1 h with e | h
   · simp only[gU] at e;obtain⟨rfl,rfl⟩:=e;exact List.mem_cons_self ..
   · exact tf _ (j h)
theorem JB (u:F.mode=.run)(w:F.todo=.ops all (i::rest)::td)(x:all[i]? = some o)(y:qP F all o=some true)(t:bG o.op=false)
   (h:aA P Qf (Lu fn F k o all rest td (Em F S o.op))):aA P Qf (.run fn F S k):=by
 cases n:Em F S o.op with
 | none=>rw[n] at h;exact h.elim
 | some l=>
   rw[n] at h
   have a:aA P Qf (LL fn F k o all rest td l (flat k))→aA P Qf (.run fn F S k):=by
     intro h
     cases m:flat k with
     | false=>rw[m] at h;exact h.elim
     | true=>
       rw[m] at h
       have:=fh.all (ι:={ p:AV×af // p∈l }) (A:=fun p Q=>Reach P (F.after o p.1.1 all rest td) p.1.2 (GK P k fn Q)) m fun p=>by
        have:=h _ _ (JA (F:=F) (o:=o) (all:=all) (rest:=rest) (td:=td) p.2)
        rw[gy] at this
        exact this
       exact fh.mono (fun Q q=>Reach.It u w x y t n fun v S' j=>q ⟨(v,S'),j⟩) this
   match l,a,h,n with
   | [],a,h,_=>exact a h
   | [(v,S')],_,h,n=>
     simp only[Lu,gy] at h
     refine aA.reach (fun G q=>Reach.It u w x y t n fun B z j=>?_) h
     simp only[List.mem_singleton,gU] at j
     obtain⟨rfl,rfl⟩:=j
     exact q
   | _::_::_,a,h,_=>exact a h
theorem MB (y:cq T P)(j:F.mode=.run)(m:F.todo=.ops all (i::rest)::td)(p:all[i]? = some o)(t:qP F all o=some true)(a:bG o.op=false){r:Option cJ}(u:fK P F.eval S o.op=r)
   (h:aA P Qf (KJ T fn F S k o all rest td r)):aA P Qf (.run fn F S k):=by
 cases r with
 | none=>exact JB j m p t a h
 | some r=>
   cases r with
   | val v S' =>
     simp only[KJ,gy] at h
     exact aA.reach (fun G q=>Reach.GF j m p t a u q) h
   | skip S' =>
     simp only[KJ,gy] at h
     exact aA.reach (fun G q=>Reach.Io j m p t a u q) h
   | th v=>exact aA.reach (fun G q=>Reach.Xi j m p t a u q) h
   | nU id args=>
     simp only[KJ,P1] at h
     split at h
     · rename_i st x f n mask env params assign body w
       simp only[Zq] at h
       split at h
       · rename_i e z A
         obtain⟨t1,_⟩:=y f e z
         refine fh.mono (fun Q q=>?_) h
         exact Reach.Xm j m p t a u w (jj A) t1 q
       · exact h.elim
     · exact h.elim
   | call f args=>exact h.elim
   | pY f cap args=>exact h.elim
   | X9=>exact h.elim
theorem JC (m:F.mode=.run)(n:F.todo=.ops all (i::rest)::td)(t:all[i]? = some o)(u:qP F all o=some true){r:Option cJ}(w:fK P F.eval S o.op=r)
   (h:aA P Qf (Ib fn F S k o all rest td F.round r)):aA P Qf (.run fn F S k):=by
 cases j:F.round with
 | some id=>rw[j] at h;cases r with
   | none=>exact h.elim
   | some r=>cases r<;>exact h.elim
 | none=>
   rw[j] at h
   cases r with
   | none=>exact h.elim
   | some r=>
     cases r with
     | pY f cap args=>
       simp only[Ib,gy] at h
       exact aA.reach (fun G q=>Reach.Xj m n t u j w q) h
     | X9=>
       simp only[Ib] at h
       split at h
       · rename_i x
         cases a:rR F.cm with
         | none=>
           rw[a] at h
           simp only[QV,gy] at h
           exact aA.reach (fun G q=>Reach.LH m n t u x j w (by rw[a];exact q)) h
         | some p=>
           obtain⟨v,cm⟩:=p
           rw[a] at h
           simp only[QV,gy] at h
           exact aA.reach (fun G q=>Reach.LH m n t u x j w (by rw[a];exact q)) h
       · exact h.elim
     | _=>exact h.elim
variable {b : Bool}
theorem Iu (q:cq T P)(j:F.mode=.run)(m:F.todo=.ops all (i::rest)::td)(n:all[i]? = some o)(p:qP F all o=some true)(a:bG o.op=b)(h:aA P Qf (YE T P fn F S k o all rest td b)):aA P Qf (.run fn F S k):=by
 cases b with
 | false=>simp only[YE,lU] at h;exact MB q j m n p a rfl h
 | true=>simp only[YE,lU] at h;exact JC j m n p rfl h
theorem MC (u:cq T P)(n:F.mode=.run)(t:F.todo=.ops all (i::rest)::td)(h:aA P Qf (QW T P fn F S k all rest td (I0 all i))):aA P Qf (.run fn F S k):=by
 rw[vH] at h
 cases j:all[i]? with
 | none=>rw[j] at h;exact h.elim
 | some o=>
   rw[j] at h
   simp only[QW] at h
   cases m:qP F all o with
   | none=>rw[m] at h;exact h.elim
   | some b=>
     rw[m] at h
     cases b with
     | false=>
       simp only[GM,gy] at h
       exact aA.reach (fun G q=>Reach.zQ n t j m q) h
     | true=>
       simp only[GM] at h
       cases w:gE o.op with
       | none=>rw[w] at h;exact Iu u n t j m rfl h
       | some c=>
         rw[w] at h
         have a:=gr w
         simp only[Zs] at h
         cases y:ql T F c P with
         | none=>rw[y] at h;exact Iu u n t j m a h
         | some p=>
           obtain⟨g,e,args⟩:=p
           rw[y] at h
           obtain⟨B,z⟩:=mh u w y
           obtain⟨t1,t2,t3,t4⟩:=u g e B
           simp only[P2] at h
           cases hx:e.ext with
           | none=>
             rw[hx] at h
             refine fh.mono (fun Q q=>?_) h
             exact Reach.ze (Q:=fun r S' => Reach P (F.back o all rest td r) S' (GK P k fn Q)) n t j m a (z S) (cL.nO e.mask t1 t2 q) fun r S' q=>q
           | some x=>
             rw[hx] at h
             simp only[LN] at h
             cases A:x args S with
             | none=>
               rw[A] at h
               refine fh.mono (fun Q q=>?_) h
               exact Reach.ze (Q:=fun r S' => Reach P (F.back o all rest td r) S' (GK P k fn Q)) n t j m a (z S) (cL.nO e.mask t1 t2 q) fun r S' q=>q
             | some p=>
               obtain⟨v,S'⟩:=p
               rw[A] at h
               simp only[Zr,gy] at h
               refine aA.reach (fun G q=>Reach.ze n t j m a (z S) (t4 x hx args S v S' A) fun r H C=>?_) h
               obtain⟨rfl,rfl⟩:=C
               exact q
end
theorem JD (h:aA P Qf (El S k v)):fh P Qf k fun Q=>Q (.ret v) .run S:=by
 cases k with
 | round fn F o all rest td id next=>simp only[El,zT] at h;exact h
 | e9 D o os E pi aH a next=>
   cases a with
   | none=>exact h.elim
   | some id=>exact⟨v,S,⟨rfl,rfl⟩,h⟩
 | _=>exact h.elim
theorem MD (x:F.mode=.run)(h:aA P Qf (Lr F S k (lr k))):aA P Qf (.run fn F S k):=by
 cases t:lr k with
 | none=>rw[t] at h;exact h.elim
 | some id=>
   rw[t] at h
   simp only[Lr,Zp] at h
   split at h
   · rename_i st m f n mask env params assign body y z p
     have p:=ed p
     have fin:∀(v:AV) (u:af),(∀ Q:gI→cQ→af→Prop,Q (.ret v) .run u→D6 id F S fun r w=>Q r .run w)→aA P Qf (El u k v)→aA P Qf (.run fn F S k):=by
       intro v u A B
       refine fh.mono (fun Q q=>Reach.done ?_) (JD B)
       simp only[GK,t]
       exact A Q q
     cases j:F.todo with
     | nil=>
       rw[j] at h
       exact fin _ _ (fun Q q=>⟨y,.inl ⟨x,st,m,f,n,mask,env,params,assign,body,z,p,.inl ⟨j,q⟩⟩⟩) h
     | cons C r=>
       rw[j] at h
       cases a:xz (C::r) with
       | none=>rw[a] at h;exact h.elim
       | some c=>
         rw[a] at h
         exact fin _ _ (fun Q q=>⟨y,.inl ⟨x,st,m,f,n,mask,env,params,assign,body,z,p,.inr ⟨c,by rw[j];exact a,q⟩⟩⟩) h
   · exact h.elim
variable {td : List ay}
theorem OX (m:cq T P)(n:F.mode=.run){f:Operand}{params:Array Tmp}{assign body:Code}(p:F.todo=.code (.rangeFunc f params assign body)::td)(h:aA P Qf (acJ T fn F S k params assign body td F.round (F.eval f))):aA P Qf (.run fn F S k):=by
 cases a:F.round with
 | some id=>rw[a] at h;exact h.elim
 | none=>
   rw[a] at h
   cases j:F.eval f with
   | none=>rw[j] at h;exact h.elim
   | some v=>
     rw[j] at h
     cases v with
     | fn g first cap=>
       cases g with
       | func g=>
         simp only[acJ] at h
         split at h
         · rename_i e t h1 h2
           obtain⟨t1,t2,t3,_⟩:=m g e t
           have h1:=ed h1
           refine fh.mono (fun Q q=>?_) h
           exact Reach.rangeFunc (Q:=fun r S' => Reach P (F.nB S.nx (S.nx+1) td r) S' (GK P k fn Q)) n p a j t3 (by omega) (ed h2) (cL.nO e.mask t1 t2 q) fun r S' q=>q
         · exact h.elim
       | _=>exact h.elim
     | _=>exact h.elim
variable {G : ad → af → Prop}
theorem Reach.inst (h:∀ g w fr,mw P g F fr→Inv S g w→Reach P F S G):Reach P F S G:=
 fun g w fr j cs a b c=>h g w fr a c g w fr j cs a b c
theorem ME (a:F.mode=.run){all:Array Oper}(j:F.todo=.code (.region id all true)::td)(h:aA P Qf (QU T fn F S k id all td)):aA P Qf (.run fn F S k):=by
 simp only[QU] at h
 cases h1:BP all with
 | false=>rw[h1] at h;exact h.elim
 | true=>
   cases h2:Nat.ble S.lim S.nx with
   | false=>rw[h1,h2] at h;exact h.elim
   | true=>
     rw[h1,h2] at h
     refine fh.mono (fun Q q=>?_) h
     exact q F S ⟨_,_,_,_,DI.start h1 (ed h2) a j rfl rfl rfl rfl rfl rfl⟩
theorem JE (u:cq T P)(a:F.mode=.run){l:List ay}(m:F.todo=l)(h:aA P Qf (Ls T fn F S k l)):aA P Qf (.run fn F S k):=by
 unfold Ls at h
 split at h
 · exact OX u a m h
 · exact ME a m h
 · rename_i id td
   unfold Zn at h
   split at h
   · rename_i st j f n mask env params assign body p
     split at h
     · rename_i h1 h2
       exact aA.reach (fun G q=>Reach.mN a m p h1 (ed h2) q) h
     · exact h.elim
   · exact h.elim
 · rename_i td
   cases t:F.round with
   | none=>rw[t] at h;exact h.elim
   | some id=>
     rw[t] at h
     simp only[P0,Zo] at h
     split at h
     · rename_i j f n mask env params assign body p
       split at h
       · rename_i h2
         exact aA.reach (fun G q=>Reach.Gg a m t p (ed h2) q) h
       · exact h.elim
     · exact h.elim
 · exact MD a h
theorem OY (m:cq T P)(h:aA P Qf (acK T P fn F S k F.mode)):aA P Qf (.run fn F S k):=by
 cases j:F.mode with
 | run=>
   rw[j] at h
   simp only[acK] at h
   have Ya:aA P Qf (Zt T fn F S k (IZ F F.todo))→aA P Qf (.run fn F S k):=by
     intro h
     cases n:IZ F F.todo with
     | some F' =>
       rw[n] at h
       rw[Iq j] at n
       exact aA.reach (fun G q=>Reach.Ya n (G9 10 q)) h
     | none=>rw[n] at h;exact JE m j rfl h
   cases a:F.todo with
   | nil=>rw[a] at h;exact Ya (by rw[a];exact h)
   | cons p r=>
     rw[a] at h
     cases p with
     | ops all l=>
       cases l with
       | nil=>exact Ya (by rw[a];exact h)
       | cons i rest=>exact MC m j a h
     | _=>exact Ya (by rw[a];exact h)
 | returning=>rw[j] at h;exact EC m (by rw[j];simp) rfl h
 | panicking l=>rw[j] at h;exact EC m (by rw[j];simp) rfl h
theorem nZ.step {D n:rC}{o:Oper}{os:List Oper}(x:nZ P n k Q)(y:D.os=o::os)(p:n.fn=D.fn)(h:∀ a S0 E j v m,DI P a S0 D E j v m→(∀ id o,S0.get id=some o→id<S0.nx) →
  (∀ En vn En', mL P D.ops o D.F.get En vn En' → En.nx=D.S.nx→(∀ id ob,En.get id=some ob→D.S.get id=some ob)→Ic En En')→∃ E j v m,DI P a S0 n E j v m):nZ P D k Q:=by
 intro a S0 ⟨E,j,v,m,u⟩
 refine Reach.inst fun g w fr z hi=>?_
 rw[←p]
 exact x a S0 (h a S0 E j v m u (fun id o e=>hi.iZ e) fun En vn En' q A t=>u.facts z hi y q A t)
section
variable {D : rC} {k : cu} {o : Oper} {os : List Oper}
theorem B8 (n:D.os=o::os)(t:qP D.F D.ops o=some false)(h:aA P Qf (.e9 (D.next o os (al D.dX o.after.toList) (.bM []) D.S.nx [] none) k)):aA P Qf (.e9 D k):=by
 refine fh.mono (fun Q q=>?_) h
 refine nZ.step q n rfl (fun u S0 E w v x p y z=>?_)
 have a:∀ id,(⟨D.S.nx,D.S.nx,.nil⟩:af).get id=none:=by
  intro id
  by_cases h:Ok id
  · rw[af.bK h];exact PT.get_nil _ _
  · exact af.fG h
 have j:∀ {id ob},(⟨D.S.nx,D.S.nx,.nil⟩:af).get id=some ob→False:=by intro id ob e;rw[a] at e;simp at e
 have m:mL P D.ops o D.F.get ⟨D.S.nx,D.S.nx,.nil⟩ (.bM []) ⟨D.S.nx,D.S.nx,.nil⟩:=mL.zQ t
 exact p.next n (En:=⟨D.S.nx,D.S.nx,.nil⟩) (En' := ⟨D.S.nx,D.S.nx,.nil⟩) m rfl (Nat.le_refl _) p.LO (fun id ob e=>(j e).elim) (fun id e=>by simp[nV] at e) (fun id ob e=>by simp at e) (fun id ob e=>(j e).elim)
  (fun id e=>by simp[nV] at e) (.inr ⟨rfl,a⟩)
variable {E : af} {s : St}
theorem tw (C:D.os=o::os)(H:qP D.F D.ops o=some true)(n:bG o.op=false){ids:List Nat}{wT:Option af}(h:ti D o os (al D.dX o.after.toList) k E ids wT (fK P D.F.eval E o.op)=some s)(p:E.nx=D.S.nx)(u:E.lim=D.S.lim∨E.lim=D.S.nx)(m:∀ id ob,E.get id=some ob→D.S.get id=some ob∧iu (al D.dX o.after.toList) D.jJ id=true)(w:∀ id ob,E.get id=some ob→E.lim≤id→id<E.nx→id∈ids)(x:∀ id,id∈ids→E.lim≤id)(A:∀ id,id∈ids→id<D.S.nx→qo (al D.dX o.after.toList) D.es id=true)(B:wT=some E∨(wT=none∧∀ id,E.get id=none))(y:aA P Qf s):aA P Qf (.e9 D k):=by
 have I:∀(v:AV) (j:af),mL P D.ops o D.F.get E v j→aA P Qf (.e9 (D.next o os (al D.dX o.after.toList) v j.nx (mO E j ids++rG j E.nx (j.nx-E.nx)) wT) k)→aA P Qf (.e9 D k):=by
   intro v j t y
   refine fh.mono (fun Q q=>?_) y
   refine nZ.step q C rfl (fun O S0 E0 N v0 R J K L=>?_)
   have M:=L E v j t p fun id ob e=>(m id ob e).1
   exact J.news K C t M p u (fun id ob e=>⟨(m id ob e).1,J.clear (m id ob e).2⟩) w (fun id a _=>x id a) (fun id a _=>A id a) (fun id ob e=>by
     obtain⟨a,_,b,c⟩:=uY e;exact⟨a,b,c⟩) B
 cases z:fK P D.F.eval E o.op with
 | none=>rw[z] at h;simp[ti] at h
 | some r=>
   rw[z] at h
   cases r with
   | val v j=>
     simp only[ti,an] at h
     subst h
     exact I v j (mL.val H n z) y
   | skip j=>
     simp only[ti,an] at h
     subst h
     exact I _ j (mL.skip H n z) y
   | _=>simp[ti] at h
variable {lim : Nat}
theorem nJ : ∀ {l:List Nat},id∈mP lim l↔id∈l∧lim≤id:=by
 intro l
 induction l with
 | nil=>simp[mP]
 | cons a r j=>
   simp only[mP]
   split
   · rename_i h
     have h:=ed h
     rw[List.mem_cons,j,List.mem_cons]
     constructor
     · rintro(rfl | ⟨x,y⟩)
       · exact⟨.inl rfl,h⟩
       · exact⟨.inr x,y⟩
     · rintro⟨rfl | x,y⟩
       · exact .inl rfl
       · exact .inr ⟨x,y⟩
   · rename_i h
     have h:¬ lim≤a:=fun e=>by rw[sr e] at h;simp at h
     rw[j,List.mem_cons]
     constructor
     · rintro⟨x,y⟩;exact⟨.inr x,y⟩
     · rintro⟨rfl | x,y⟩
       · exact absurd y h
       · exact⟨x,y⟩
theorem vJ (nx lim id:Nat):(⟨nx,lim,.nil⟩:af).get id=none:=by
 by_cases h:Ok id
 · rw[af.bK h];exact PT.get_nil _ _
 · exact af.fG h
theorem OZ (p:D.os=o::os)(h:aA P Qf (acI P D o os (al D.dX o.after.toList) k (qP D.F D.ops o))):aA P Qf (.e9 D k):=by
 cases n:qP D.F D.ops o with
 | none=>rw[n] at h;exact h.elim
 | some b=>
   rw[n] at h
   cases b with
   | false=>exact B8 p n h
   | true=>
     simp only[acI] at h
     cases j:bG o.op with
     | true=>rw[j] at h;exact h.elim
     | false=>
       rw[j] at h
       simp only[Zl,lU] at h
       cases h0:ti D o os (al D.dX o.after.toList) k ⟨D.S.nx,D.S.nx,.nil⟩ [] none (fK P D.F.eval ⟨D.S.nx,D.S.nx,.nil⟩ o.op) with
       | some s=>
         rw[h0] at h
         exact tw p n j h0 rfl (.inr rfl) (fun id ob e=>by rw[vJ] at e;simp at e) (fun id ob e=>by rw[vJ] at e;simp at e) (fun id e=>by simp at e) (fun id e=>by simp at e) (.inr ⟨rfl,fun id=>vJ _ _ id⟩) h
       | none=>
         rw[h0] at h
         simp only[Zk,Zj,Zi,lU] at h
         have a:∀ {nx lim id ob},(⟨nx,lim,seen D.S (al D.dX o.after.toList) D.jJ (gF D.F (gX o.op)) .nil⟩:af).get id=some ob→id∈gF D.F (gX o.op)∧D.S.get id=some ob∧iu (al D.dX o.after.toList) D.jJ id=true:=by
           intro nx lim id ob e
           have hi:=af.dG e
           rw[af.bK hi] at e
           rcases vV hi e with q | q
           · rw[PT.get_nil] at q;simp at q
           · exact q
         generalize x:seen D.S (al D.dX o.after.toList) D.jJ (gF D.F (gX o.op)) .nil=m at *
         cases h1:ti D o os (al D.dX o.after.toList) k ⟨D.S.nx,D.S.nx,m⟩ [] (some ⟨D.S.nx,D.S.nx,m⟩) (fK P D.F.eval ⟨D.S.nx,D.S.nx,m⟩ o.op) with
         | some s=>
           rw[h1] at h
           refine tw p n j h1 rfl (.inr rfl) (fun id ob e=>(a e).2) (fun id ob e h1 h2=>?_) (fun id e=>by simp at e) (fun id e=>by simp at e) (.inl rfl) h
           exact absurd h2 (Nat.not_lt.2 h1)
         | none=>
           rw[h1] at h
           simp only[PY] at h
           cases t:jt (al D.dX o.after.toList) D.es D.S.nx (mP D.S.lim (gF D.F (gX o.op))) with
           | false=>rw[t] at h;exact h.elim
           | true=>
             rw[t] at h
             simp only[Zh,lU] at h
             cases h2:ti D o os (al D.dX o.after.toList) k ⟨D.S.nx,D.S.lim,m⟩ (mP D.S.lim (gF D.F (gX o.op))) (some ⟨D.S.nx,D.S.lim,m⟩) (fK P D.F.eval ⟨D.S.nx,D.S.lim,m⟩ o.op) with
             | none=>rw[h2] at h;exact h.elim
             | some s=>
               rw[h2] at h
               exact tw p n j h2 rfl (.inl rfl) (fun id ob e=>(a e).2) (fun id ob e w _=>nJ.2 ⟨(a e).1,w⟩) (fun id e=>(nJ.1 e).2) (fun id e u=>nT t id e u) (.inl rfl) h
theorem Am (E:af)(pi:Nat)(v:AV)(S:af):D.iJ o os E pi .quiet v S=D.next o os pi v S.nx (iC S E.nx nY [v] []) (some E):=rfl
theorem MF (E:af)(pi:Nat)(ids:List Nat)(v:AV)(S:af):D.iJ o os E pi (.sep ids) v S=D.next o os pi v S.nx (mO E S ids++iC S E.nx nY (v::kids S ids) []) (some E):=rfl
theorem B9 (E:af)(pi:Nat)(aH:List Nat)(v:AV)(S:af):D.iJ o os E pi (.wide aH) v S=D.Lp o os E pi aH v S:=rfl
theorem vK (E:af)(pi:Nat)(m:DM)(v:AV)(S:af):(D.iJ o os E pi m v S).fn=D.fn:=by cases m<;>rfl
variable {pi : Nat}
theorem uZ (n:cq T P)(q:FT.look T g=some e){aH:DM}(h:aA P Qf (xd g e args E (.e9 D o os E pi aH none k))) :
   ∃ v j,cL P g args E (fun r S=>r=.ret v∧S=j)∧fh P Qf k fun Q=>nZ P (D.iJ o os E pi aH v j) k Q:=by
 obtain⟨t1,t2,t3,t4⟩:=n g e q
 unfold xd at h
 cases hx:e.ext with
 | none=>
   rw[hx] at h
   obtain⟨v,j,a,b⟩:=h
   exact⟨v,j,cL.nO e.mask t1 t2 a,b⟩
 | some x=>
   rw[hx] at h
   simp only at h
   cases m:x args E with
   | none=>
     rw[m] at h
     obtain⟨v,j,a,b⟩:=h
     exact⟨v,j,cL.nO e.mask t1 t2 a,b⟩
   | some p=>
     obtain⟨v,S'⟩:=p
     rw[m] at h
     exact⟨v,S', t4 x hx args E v S' m,h⟩
theorem Hf {jJ:List (Nat×DU)}{ob:Option ai}:∀ {c:sL},(id,ob)∈xb pi jJ c→(id,ob)∈c∧iu pi jJ id=true:=by
 intro c
 induction c with
 | nil=>intro h;simp[xb] at h
 | cons p r j=>
   obtain⟨k,x⟩:=p
   intro h
   simp only[xb] at h
   split at h
   · rename_i m
     rcases List.mem_cons.1 h with e | h
     · simp only[gU] at e;obtain⟨rfl,rfl⟩:=e;exact⟨List.mem_cons_self .., m⟩
     · obtain⟨a,b⟩:=j h;exact⟨tf _ a,b⟩
   · obtain⟨a,b⟩:=j h;exact⟨tf _ a,b⟩
theorem Ca : ∀ {c:sL},id∈uq lim c↔nV c id=true∧lim≤id:=by
 intro c
 induction c with
 | nil=>simp[uq,nV]
 | cons p r a=>
   obtain⟨k,x⟩:=p
   simp only[uq,nV]
   cases j:Nat.beq k id with
   | true=>
     have:k=id:=jj j
     subst this
     split
     · rename_i h;have h:=ed h;simp[h]
     · rename_i h
       have h:¬ lim≤k:=fun e=>by rw[sr e] at h;simp at h
       rw[a];simp[h]
   | false=>
     have m:id≠k:=by rintro rfl;rw[Nat.beq_refl] at j;simp at j
     split
     · rw[List.mem_cons,a];simp[m]
     · exact a
variable {b : Bool} {aH : List Nat}
theorem Hg (t:cq T P)(n:D.os=o::os)(u:qP D.F D.ops o=some true)(j:bG o.op=false)(w:FT.look T g=some e)(x:∀ S,fK P D.F.eval S o.op=some (.call g args))(hh:hidden (al D.dX o.after.toList) D.jJ=some aH)(y:xA (al D.dX o.after.toList) D.es=b)(h:aA P Qf (GJ D o os (al D.dX o.after.toList) k g e args aH b)):aA P Qf (.e9 D k):=by
 cases b with
 | false=>exact h.elim
 | true=>
   simp only[GJ] at h
   obtain⟨v,z,A,B⟩:=uZ t w h
   refine fh.mono (fun Q q=>?_) B
   refine nZ.step q n (vK ..) (fun J S0 E0 I v0 K p C H=>?_)
   have a:mL P D.ops o D.F.get ⟨D.S.nx,D.S.lim,iI D.S.m aH⟩ v z:=mL.call u j (x _) A
   rw[B9]
   exact p.wide C n hh y a (H _ _ _ a rfl fun id ob e=>by
    rw[(p.aH hh).2.2] at e
    split at e
    · simp at e
    · exact e)
theorem Hh (H:cq T P)(B:D.os=o::os)(I:qP D.F D.ops o=some true)(x:bG o.op=false)(J:FT.look T g=some e)(K:∀ S,fK P D.F.eval S o.op=some (.call g args)){c:sL}(L:jt (al D.dX o.after.toList) D.es D.S.nx (uq D.S.lim c)=b)(j:∀ id ob,(id,ob)∈c→D.S.get id≠none∧ob=D.S.get id∧iu (al D.dX o.after.toList) D.jJ id=true)(h:aA P Qf (GI D o os (al D.dX o.after.toList) k g e args c (uq D.S.lim c) b)):aA P Qf (.e9 D k):=by
 cases b with
 | false=>exact h.elim
 | true=>
   simp only[GI] at h
   obtain⟨v,w,M,N⟩:=uZ H J h
   have n:∀ id ob,(id,ob)∈c→Ok id:=by
    intro id ob e
    obtain⟨a,_,_⟩:=j id ob e
    cases q:D.S.get id with
    | none=>exact absurd q a
    | some y=>exact af.dG q
   have t:∀ id ob,(⟨D.S.nx,D.S.lim,qQ .nil c⟩:af).get id=some ob→nV c id=true∧D.S.get id=some ob∧iu (al D.dX o.after.toList) D.jJ id=true:=by
    intro id ob e
    have hi:=af.dG e
    rw[af.bK hi] at e
    have e:PT.get dep (qQ .nil c) id=some ob:=e
    cases u:nV c id with
    | false=>rw[rT hi n u,PT.get_nil] at e;simp at e
    | true=>
      obtain⟨ob', O,R⟩:=zf (m:=.nil) hi n u
      rw[R] at e
      obtain⟨_,b,c'⟩:=j id ob' O
      exact⟨rfl,by rw[←b];exact e,c'⟩
   refine fh.mono (fun Q q=>?_) N
   refine nZ.step q B (vK ..) (fun Y S0 E0 X v0 Z C U V=>?_)
   have p:mL P D.ops o D.F.get ⟨D.S.nx,D.S.lim,qQ .nil c⟩ v w:=mL.call I x (K _) M
   have W:=V _ _ _ p rfl fun id ob e=>(t id ob e).2.1
   rw[MF]
   generalize z:iC w (af.nx ⟨D.S.nx,D.S.lim,qQ .nil c⟩) nY (v::kids w (uq D.S.lim c)) []=nw
   exact C.news U B p W rfl (.inl rfl) (fun id ob e=>⟨(t id ob e).2.1,C.clear (t id ob e).2.2⟩) (fun id ob e u _=>Ca.2 ⟨(t id ob e).1,u⟩) (fun id e _=>(Ca.1 e).2) (fun id e _ A=>nT L id e A) (fun id ob e=>by
    rw[←z] at e
    rcases nI e with q | q
    · simp at q
    · exact q) (.inl rfl)
theorem Hi (A:cq T P)(x:D.os=o::os)(B:qP D.F D.ops o=some true)(p:bG o.op=false)(C:FT.look T g=some e)(H:∀ S,fK P D.F.eval S o.op=some (.call g args))(hh:hidden (al D.dX o.after.toList) D.jJ=some aH)(h:aA P Qf (xd g e args ⟨D.S.nx,D.S.nx,iI D.S.m aH⟩ (.e9 D o os ⟨D.S.nx,D.S.nx,iI D.S.m aH⟩ (al D.dX o.after.toList) .quiet none k))):aA P Qf (.e9 D k):=by
 obtain⟨v,y,I,J⟩:=uZ A C h
 refine fh.mono (fun Q q=>?_) J
 refine nZ.step q x (vK ..) (fun R S0 E0 O v0 U z K L=>?_)
 have a:mL P D.ops o D.F.get ⟨D.S.nx,D.S.nx,iI D.S.m aH⟩ v y:=mL.call B p (H _) I
 obtain⟨_,t,u⟩:=z.aH hh
 have n:∀ id ob,(⟨D.S.nx,D.S.nx,iI D.S.m aH⟩:af).get id=some ob→id∉aH∧D.S.get id=some ob:=by
  intro id ob e
  rw[u] at e
  split at e
  · simp at e
  · exact⟨by assumption,e⟩
 have M:=L _ _ _ a rfl fun id ob e=>(n id ob e).2
 rw[Am]
 generalize w:iC y (af.nx ⟨D.S.nx,D.S.nx,iI D.S.m aH⟩) nY [v] []=nw
 have:=z.news K x (ids:=[]) (nw:=nw) (Eo:=some ⟨D.S.nx,D.S.nx,iI D.S.m aH⟩) a M rfl (.inr rfl) (fun id ob e=>⟨(n id ob e).2,t id (n id ob e).1⟩) (fun id ob e N j=>absurd j (Nat.not_lt.2 N)) (fun id e _=>by simp at e) (fun id e _ j=>by simp at e)
  (fun id ob e=>by
   rw[←w] at e
   rcases nI e with q | q
   · simp at q
   · exact q) (.inl rfl)
 exact this
theorem JF (m:cq T P)(n:D.os=o::os)(p:qP D.F D.ops o=some true)(j:bG o.op=false)(t:FT.look T g=some e)(u:∀ S,fK P D.F.eval S o.op=some (.call g args))(h:aA P Qf (GL D o os (al D.dX o.after.toList) k g e args (hidden (al D.dX o.after.toList) D.jJ))):aA P Qf (.e9 D k):=by
 cases hh:hidden (al D.dX o.after.toList) D.jJ with
 | none=>rw[hh] at h;exact h.elim
 | some aH=>
   rw[hh] at h
   simp only[GL] at h
   cases w:tb D.wm D.i with
   | true=>rw[w] at h;exact Hg m n p j t u hh rfl h
   | false=>
     rw[w] at h
     simp only at h
     cases x:tb D.sm D.i with
     | true=>
       rw[x] at h
       refine Hh m n p j t u rfl (fun id ob e=>?_) h
       obtain⟨a,b⟩:=Hf e
       rcases nI a with q | ⟨_,y,z⟩
       · simp at q
       · exact⟨y,z,b⟩
     | false=>rw[x] at h;exact Hi m n p j t u hh h
theorem MG (w:D.os=o::os)(z:qP D.F D.ops o=some true)(p:bG o.op=false)(h:aA P Qf (QT T P D o os (al D.dX o.after.toList) k)):aA P Qf (.e9 D k):=by
 unfold QT at h
 split at h
 · rename_i aH hh t
   simp only[lU] at h
   split at h
   · rename_i id args A
     split at h
     · rename_i st y f n mask env params assign body u
       split at h
       · rename_i e L j
         obtain⟨v,B,C,H⟩:=h
         refine fh.mono (fun Q q=>?_) H
         refine nZ.step q w rfl (fun M S0 E0 K v0 N x I J=>?_)
         have a:mL P D.ops o D.F.get ⟨D.S.nx,D.S.lim,iI D.S.m aH⟩ v B:=mL.nU z p A u (jj j) C
         exact x.wide I w hh t a (J _ _ _ a rfl fun id ob e=>by
          rw[(x.aH hh).2.2] at e
          split at e
          · simp at e
          · exact e)
       · exact h.elim
     · exact h.elim
   · exact h.elim
 · exact h.elim
theorem JG (u:cq T P)(n:P.follows .mixedOrders=true)(h:aA P Qf (Lq T P D k D.os)):aA P Qf (.e9 D k):=by
 cases a:D.os with
 | nil=>
   rw[a] at h
   refine fh.mono (fun Q q=>?_) h
   intro z S0 ⟨E,A,v,B,w⟩
   exact w.iJ n a q
 | cons o os=>
   rw[a] at h
   simp only[Lq] at h
   cases j:gE o.op with
   | none=>rw[j] at h;exact OZ a h
   | some c=>
     rw[j] at h
     simp only[Zm] at h
     cases m:qP D.F D.ops o with
     | none=>rw[m] at h;exact h.elim
     | some b=>
       rw[m] at h
       cases b with
       | false=>exact B8 a m h
       | true=>
         simp only[PZ] at h
         cases t:ql T D.F c P with
         | none=>rw[t] at h;exact MG a m (gr j) h
         | some p=>
           obtain⟨g,e,args⟩:=p
           rw[t] at h
           obtain⟨x,y⟩:=mh u j t
           exact JF u a m (gr j) x y h
end
variable {s : St}
theorem qw (j:cq T P)(a:P.follows .mixedOrders=true)(h:aA P Qf (s.step T P)):aA P Qf s:=by
 cases s with
 | run fn F S k=>exact OY j h
 | e9 D k=>exact JG j a h
 | done r S=>exact h
 | fork fn k l=>exact h
 | bad n=>exact h
theorem zg (p:cq T P)(j:P.follows .mixedOrders=true):∀(d:Nat) {s:St},aA P Qf (St.rep T P d s)→aA P Qf s:=by
 intro d
 induction d with
 | zero=>intro s h;exact qw p j h
 | succ d m=>
   intro s h
   refine m ?_
   simp only[St.rep] at h
   cases a:St.rep T P d s with
   | run fn F S k=>rw[a] at h;exact m h
   | e9 D k=>rw[a] at h;exact m h
   | done r S=>rw[a] at h;exact h
   | fork fn k l=>rw[a] at h;exact h
   | bad n=>rw[a] at h;exact h
theorem aA.ends {j:gI→af→Prop}(m:∀ r S,Qf r S→j r S){s:St}(h:aA P Qf s):aA P j s:=by
 cases s with
 | run fn F S k=>exact fh.ends m (fun Q Q' a q=>q.cons a) h
 | e9 D k=>exact fh.ends m (fun Q Q' a q p S0 t=>(q p S0 t).cons a) h
 | done r S=>exact m r S h
 | fork fn k l=>exact fun F S u=>fh.ends m (fun Q Q' a q=>q.cons a) (h F S u)
 | bad n=>exact h
theorem JH {l:List (ad×af)}(h:(F,S)∈l):St.run fn F S k∈Lv fn k l:=by
 induction l with
 | nil=>simp at h
 | cons p r j=>
   obtain⟨a,b⟩:=p
   rcases List.mem_cons.1 h with e | h
   · simp only[gU] at e;obtain⟨rfl,rfl⟩:=e;exact List.mem_cons_self ..
   · exact tf _ (j h)
def Ends (l:List (AV×af)):gI→af→Prop:=fun r S=>∃ v,r=.ret v∧(v,S)∈l
variable {d : Nat}
theorem MH (u:cq T P)(m:P.follows .mixedOrders=true):∀ {n:Nat} {l:List St} {j:List (AV×af)},St.outs T P d n l=some j→∀ s,s∈l→aA P (Ends j) s:=by
 intro n
 induction n with
 | zero=>intro l j h;simp[St.outs] at h
 | succ n w=>
   intro l j h s p
   cases l with
   | nil=>simp at p
   | cons y r=>
     simp only[St.outs] at h
     split at h<;>try (simp at h;done)
     · rename_i v S q
       split at h<;>simp only[an,reduceCtorEq] at h
       rename_i l' t
       subst h
       rcases List.mem_cons.1 p with rfl | p
       · exact zg u m d (by rw[q];exact⟨v,rfl,List.mem_cons_self ..⟩)
       · exact aA.ends (fun r S ⟨v,a,b⟩=>⟨v,a,tf _ b⟩) (w t s p)
     · rename_i fn k l' q
       have:=w h
       rcases List.mem_cons.1 p with rfl | p
       · exact zg u m d (by rw[q];exact fun F S x=>this _ (List.mem_append.2 (.inl (JH x))))
       · exact this s (List.mem_append.2 (.inr p))
variable {f : Nat}
theorem An (p:cq T P)(j:P.follows .mixedOrders=true){n:Nat}{a:List (AV×af)}(h:St.outs T P d n [St.start T f args S]=some a):cL P f args S (Ends a):=by
 have h1:=MH p j h _ (List.mem_cons_self ..)
 unfold St.start at h1
 cases m:FT.look T f with
 | none=>rw[m] at h1;exact h1.elim
 | some e=>
   rw[m] at h1
   obtain⟨t1,t2,_,_⟩:=p f e m
   exact cL.nO e.mask t1 t2 h1
theorem St.sound (p:cq T P)(j:P.follows .mixedOrders=true)(h:St.rep T P d (St.start T f args S)=.done r S'):cL P f args S fun m a=>m=r∧a=S' := by
 have h1:aA P (fun m a=>m=r∧a=S') (St.start T f args S):=zg p j d (by rw[h];exact⟨rfl,rfl⟩)
 unfold St.start at h1
 cases n:FT.look T f with
 | none=>rw[n] at h1;exact h1.elim
 | some e=>
   rw[n] at h1
   obtain⟨t1,t2,_,_⟩:=p f e n
   exact cL.nO e.mask t1 t2 h1
end
end
end Go.Eng
namespace Go.Eng
noncomputable section
def acL : Bool→Bool→Bool
 | true,true=>true
 | false,false=>true
 | _,_=>false
def acM : Value→Value→Bool
 | .bool a,.bool b=>acL a b
 | .int j a,.int k b=>match decide (j=k) with
   | true=>decide (a=b)
   | false=>false
 | .string a,.string b=>decide (a=b)
 | .pointer none,.pointer none=>true
 | .map none,.map none=>true
 | .nilFunc,.nilFunc=>true
 | .nilIface,.nilIface=>true
 | _,_=>false
theorem Xs {a b:Bool}(h:acL a b=true):a=b:=by cases a<;>cases b<;>first | rfl | simp[acL] at h
theorem Xt {a b:Value}(h:acM a b=true):a=b:=by
 unfold acM at h
 split at h<;>try (simp at h;done)
 · rw[Xs h]
 · split at h
   · rename_i h1
     rw[of_decide_eq_true h1,of_decide_eq_true h]
   · simp at h
 · rw[of_decide_eq_true h]
 all_goals rfl
mutual
def qg : AV→AV→Bool
 | .sc a,.sc b=>acM a b
 | .agg a,.agg b=>Nn a b
 | .dV,.dV=>true
 | .ax,.ax=>true
 | .lit a,.lit b=>Nn a b
 | .fa a,.fa b=>Nn a b
 | .bM a,.bM b=>Nn a b
 | .eS t a,.eS u b=>match Nat.beq t u with
   | true=>qg a b
   | false=>false
 | .ptr a b c,.ptr x y z=>match Nat.beq a x,Nat.beq b y with
   | true,true=>Nat.beq c z
   | _,_=>false
 | .ak a b c,.ak x y z=>match Nat.beq a x,Nat.beq b y with
   | true,true=>Nat.beq c z
   | _,_=>false
 | .dm a,.dm b=>Nat.beq a b
 | .clip a,.clip b=>qg a b
 | _,_=>false
def Nn : List AV→List AV→Bool
 | [],[]=>true
 | a::r,b::s=>match qg a b with
   | true=>Nn r s
   | false=>false
 | _,_=>false
end
theorem uG {a b:Nat}(h:Nat.beq a b=true):a=b:=jj h
mutual
theorem sy : ∀(a b:AV),qg a b=true→a=b
 | .sc a,b,h=>by cases b<;>simp only[qg,Bool.false_eq_true] at h;rw[Xt h]
 | .agg a,b,h=>by cases b<;>simp only[qg,Bool.false_eq_true] at h;rw[uO a _ h]
 | .dV,b,h=>by cases b<;>simp only[qg,Bool.false_eq_true] at h;rfl
 | .ax,b,h=>by cases b<;>simp only[qg,Bool.false_eq_true] at h;rfl
 | .lit a,b,h=>by cases b<;>simp only[qg,Bool.false_eq_true] at h;rw[uO a _ h]
 | .fa a,b,h=>by cases b<;>simp only[qg,Bool.false_eq_true] at h;rw[uO a _ h]
 | .bM a,b,h=>by cases b<;>simp only[qg,Bool.false_eq_true] at h;rw[uO a _ h]
 | .eS t a,b,h=>by
   cases b<;>simp only[qg,Bool.false_eq_true] at h
   split at h
   · rename_i h1;rw[uG h1,sy a _ h]
   · simp at h
 | .ptr a b c,d,h=>by
   cases d<;>simp only[qg,Bool.false_eq_true] at h
   split at h
   · rename_i h1 h2;rw[uG h1,uG h2,uG h]
   · simp at h
 | .ak a b c,d,h=>by
   cases d<;>simp only[qg,Bool.false_eq_true] at h
   split at h
   · rename_i h1 h2;rw[uG h1,uG h2,uG h]
   · simp at h
 | .dm a,b,h=>by cases b<;>simp only[qg,Bool.false_eq_true] at h;rw[uG h]
 | .clip a,b,h=>by cases b<;>simp only[qg,Bool.false_eq_true] at h;rw[sy a _ h]
 | .fn _ _ _,b,h=>by simp[qg] at h
 | .nU _,b,h=>by simp[qg] at h
 | .top,b,h=>by simp[qg] at h
theorem uO : ∀(a b:List AV),Nn a b=true→a=b
 | [],b,h=>by cases b<;>simp only[Nn,Bool.false_eq_true] at h;rfl
 | a::r,b,h=>by
   cases b<;>simp only[Nn,Bool.false_eq_true] at h
   split at h
   · rename_i h1;rw[sy a _ h1,uO r _ h]
   · simp at h
end
def zK (k:Nat):List (AV×af)→Option AV
 | []=>none
 | [(v,S)]=>so S k v
 | (v,S)::r=>match so S k v,zK k r with
   | some a,some b=>match qg a b with
     | true=>some a
     | false=>none
   | _,_=>none
def closed (T:FT)(P:Program)(n d k f:Nat)(args:List AV):Option AV:=
 match St.outs T P d n [St.start T f args af.empty] with
 | some l=>zK k l
 | none=>none
variable {k : Nat}
theorem Hj : ∀ {l:List (AV×af)} {i:AV},zK k l=some i→∀ v S,(v,S)∈l→so S k v=some i:=by
 intro l
 induction l with
 | nil=>intro i h;simp[zK] at h
 | cons p r m=>
   obtain⟨u,U⟩:=p
   intro i h v S hm
   cases r with
   | nil=>
     simp only[List.mem_singleton,gU] at hm
     obtain⟨rfl,rfl⟩:=hm
     exact h
   | cons q r=>
     simp only[zK] at h
     split at h<;>try (simp at h;done)
     rename_i a b o s
     split at h<;>simp only[an,reduceCtorEq] at h
     rename_i j
     have j:=sy _ _ j
     subst h
     rcases List.mem_cons.1 hm with e | hm
     · simp only[gU] at e
       obtain⟨rfl,rfl⟩:=e
       exact o
     · exact m (by rw[j];exact s) v S hm
section
variable {T : FT} {P : Program}
variable {n d f : Nat} {args : List AV} {v : AV}
theorem Dv (i:cq T P)(e:P.follows .mixedOrders=true)(h:closed T P n d k f args=some v):cL P f args af.empty fun r _=>r=.ret v:=by
 unfold closed at h
 split at h<;>try (simp at h;done)
 rename_i l j
 exact(An i e j).freeze fun r m ⟨u,a,b⟩=>⟨u,a,Hj h u m b⟩
theorem wu (b:cq T P)(a:P.follows .mixedOrders=true)(h:closed T P n d k f args=some v)(e:bF args=true)(i:aq v=true)(S:af) :
 cL P f args S fun r j=>r=.ret v∧j=S:=(Dv b a h).frame e i S
def uP : List (List AV×AV)→List AV→af→Option (AV×af)
 | [],_,_=>none
 | (a,v)::r,args,S=>match Nn args a with
   | true=>some (v,S)
   | false=>uP r args S
def zB (P:Program)(f:Nat)(l:List (List AV×AV)):Prop:=∀ a v,(a,v)∈l→∀ S,cL P f a S fun r b=>r=.ret v∧b=S
theorem sI : ∀ {l:List (List AV×AV)},zB P f l→∀ args S v b,uP l args S=some (v,b)→cL P f args S fun r e=>r=.ret v∧e=b:=by
 intro l
 induction l with
 | nil=>intro _ args S v b h;simp[uP] at h
 | cons p r j=>
   obtain⟨a,u⟩:=p
   intro i args S v b h
   simp only[uP] at h
   split at h
   · rename_i m
     simp only[an,gU] at h
     obtain⟨rfl,rfl⟩:=h
     rw[uO _ _ m]
     exact i a u (List.mem_cons_self ..) S
   · exact j (fun a v o=>i a v (tf _ o)) args S v b h
theorem zB.nil : zB P f []:=fun a v h=>by simp at h
theorem zB.cons {a:List AV}{l:List (List AV×AV)}(h:∀ S,cL P f a S fun r i=>r=.ret v∧i=S)(t:zB P f l):zB P f ((a,v)::l):=by
 intro b u hm
 rcases List.mem_cons.1 hm with e | hm
 · simp only[gU] at e
   obtain⟨rfl,rfl⟩:=e
   exact h
 · exact t b u hm
def Ie (n:Nat):sL→Bool
 | []=>true
 | (id,_)::r=>match Nat.ble n id with
   | true=>Ie n r
   | false=>false
def xC : sL→List Nat
 | []=>[]
 | (id,_)::r=>id::xC r
def xe (k:Nat)(v:AV)(S:af)(c:sL):Option (AV×af):=
 match Ie S.lim c with
 | true=>match so ⟨S.nx,S.lim,qQ .nil c⟩ k v with
   | some a=>some (a,⟨S.nx,S.lim,iI S.m (xC c)⟩)
   | none=>none
 | false=>none
def LP (T:FT)(P:Program)(d k f:Nat)(args:List AV)(S:af):Option (AV×af):=
 match St.rep T P d (St.start T f args S) with
 | .done (.ret v) S1=>xe k v S1 (iC S1 0 nY [v] [])
 | _=>none
theorem Cb : ∀ {c:sL},Ie n c=true→∀ id ob,(id,ob)∈c→n≤id:=by
 intro c
 induction c with
 | nil=>intro _ id ob h;simp at h
 | cons p r a=>
   obtain⟨k,x⟩:=p
   intro h id ob hm
   simp only[Ie] at h
   split at h
   · rename_i b
     rcases List.mem_cons.1 hm with e | hm
     · simp only[gU] at e;obtain⟨rfl,rfl⟩:=e;exact ed b
     · exact a h id ob hm
   · simp at h
theorem tX {id:Nat}:∀ {c:sL},id∈xC c↔nV c id=true:=by
 intro c
 induction c with
 | nil=>simp[xC,nV]
 | cons p r b=>
   obtain⟨k,x⟩:=p
   simp only[xC,nV,List.mem_cons]
   cases a:Nat.beq k id with
   | true=>simp[uG a]
   | false=>
     have:id≠k:=by rintro rfl;rw[Nat.beq_refl] at a;simp at a
     simp[this,b]
variable {S S1 S2 : af} {c : sL} {g : Gh}
theorem Ext.tY {Y:AV}(F:∀ id ob,(id,ob)∈c→S1.get id≠none∧ob=S1.get id)(B:xe k v S1 c=some (Y,S2)){g' : Gh}{w w' : World}(j:Inv S1 g' w')(h:Ext S g w S1 g' w') :
   ∃ N,(∀ x,VR g' v x→VR N Y x)∧Inv S2 N w' ∧ Ext S g w S2 N w' := by
 have s:∀ id ob,(id,ob)∈c→Ok id:=by
   intro id ob e
   obtain⟨a,_⟩:=F id ob e
   cases q:S1.get id with
   | none=>exact absurd q a
   | some y=>exact af.dG q
 unfold xe at B
 split at B<;>try (simp at B;done)
 rename_i G
 split at B<;>simp only[an,gU,reduceCtorEq] at B
 rename_i v0 H
 obtain⟨rfl,rfl⟩:=B
 obtain⟨C,z⟩:∃ x:af,x=⟨S1.nx,S1.lim,qQ .nil c⟩:=⟨_,rfl⟩
 obtain⟨S2,r⟩:∃ x:af,x=⟨S1.nx,S1.lim,iI S1.m (xC c)⟩:=⟨_,rfl⟩
 rw[←z] at H
 rw[←r]
 have O:∀ id o,C.get id=some o→nV c id=true∧S1.get id=some o:=by
   intro id o e
   have hi:=af.dG e
   rw[af.bK hi,z] at e
   have e:PT.get dep (qQ .nil c) id=some o:=e
   cases Z:nV c id with
   | false=>rw[rT hi s Z,PT.get_nil] at e;simp at e
   | true=>
     obtain⟨ob,D,E⟩:=zf (m:=.nil) hi s Z
     rw[E] at e
     obtain⟨_,b⟩:=F id ob D
     exact⟨rfl,by rw[←b];exact e⟩
 have h2:∀ id o,S2.get id=some o→nV c id=false∧S1.get id=some o:=by
   intro id o e
   have hi:=af.dG e
   rw[af.bK hi,r] at e
   have e:PT.get dep (iI S1.m (xC c)) id=some o:=e
   obtain⟨a,b⟩:=Mx hi (fun k R=>by obtain⟨ob,q⟩:=pK (tX.1 R);exact s k ob q) e
   refine⟨?_,by rw[af.bK hi];exact b⟩
   cases q:nV c id with
   | false=>rfl
   | true=>exact absurd (tX.2 q) a
 have W:∀ id,nV c id=false→S2.get id=S1.get id:=by
   intro id e
   by_cases hi:Ok id
   · rw[af.bK hi,af.bK hi,r]
     show PT.get dep (iI S1.m (xC c)) id=_
     rw[EB hi (fun k R=>by obtain⟨ob,q⟩:=pK (tX.1 R);exact s k ob q),if_neg]
     intro q;rw[tX.1 q] at e;simp at e
   · rw[af.fG hi,af.fG hi]
 have I:Inv C g' w' := j.less (by rw[z]) fun id o e=>(O id o e).2
 have A:=Gh.gQ I
 have i:∀ b c0,(g'.freeze C w').ro b=some c0→g'.ro b=some c0∨(∃ t fz,w'.heap[b]? = some (.cells c0 t fz))∧∃ id o l,C.get id=some o∧g'.ph id=some l∧l.bO=b:=by
   intro b c0 e
   simp only[Gh.freeze] at e
   split at e
   · rename_i c' hc;simp only[an] at e;subst e;exact .inl hc
   · split at e
     · rename_i c' t fz hh
       split at e<;>simp only[an,reduceCtorEq] at e
       rename_i X
       subst e;exact .inr ⟨⟨t,fz,hh⟩,X⟩
     · simp at e
 have hlim:S1.lim=S.lim:=h.lim
 refine⟨g'.freeze C w', fun x K=>xg I A k v v0 x H K,⟨?_,?_,?_,?_⟩,⟨h.size,h.os,h.tape,h.output,h.gw,?_,Gh.le_trans h.mJ A.1,by rw[r];exact h.nx,by rw[r];exact h.lim,?_,h.qN,?_,?_,h.fz⟩⟩
 · intro b c0 e
   rcases i b c0 e with q | ⟨q,_⟩
   · exact j.ro b c0 q
   · exact q
 · intro id o e
   obtain⟨a,b⟩:=h2 id o e
   obtain⟨l,p1,p2,p3⟩:=j.ob id o b
   refine⟨l,p1,?_,p3.mono A.1⟩
   cases q:(g'.freeze C w').ro l.bO with
   | none=>rfl
   | some c0=>
     rcases i _ c0 q with q | ⟨_,u,o0,U,D,E,L⟩
     · rw[p2] at q;simp at q
     · obtain⟨a0,V⟩:=O u o0 D
       have:=j.inj id u o o0 l U b V p1 E L.symm
       subst this
       rw[a] at a0;simp at a0
 · intro id J o o' l l' e e' p p' M
   exact j.inj id J o o' l l' (h2 id o e).2 (h2 J o' e').2 p p' M
 · intro id aH;rw[r] at aH;exact j.fresh id aH
 · intro id o l e e1 e2 e3
   exact h.own id o l (h2 id o e).2 e1 e2 e3
 · intro id aH
   rw[W id ?_]
   · exact h.rM id aH
   · cases q:nV c id with
     | false=>rfl
     | true=>
       obtain⟨ob,q⟩:=pK q
       have:=Cb G id ob q
       omega
 · intro b c0 e M
   rcases i b c0 e with q | ⟨_,id,o,l,D,E,L⟩
   · exact h.vl b c0 q M
   · obtain⟨a,V⟩:=O id o D
     obtain⟨ob,q⟩:=pK a
     have:=Cb G id ob q
     obtain⟨u,o0,U,r1,r2,r3,r4⟩:=h.own id o l V (by omega) E (by rw[L];exact M)
     exact .inr ⟨u,o0,U,r1,r2,r3,by rw[r4,L]⟩
 · intro id aH e
   have:=h.dead id aH e
   cases q:S2.get id with
   | none=>rfl
   | some o=>rw[(h2 id o q).2] at this;simp at this
variable {l : List AV}
theorem Ao (a:iC S1 0 nY l []=c):∀ id ob,(id,ob)∈c→S1.get id≠none∧ob=S1.get id:=by
 intro id ob e
 rw[←a] at e
 rcases nI e with q | ⟨_,b,h⟩
 · simp at q
 · exact⟨b,h⟩
theorem cL.tY {f:FuncId}{args:List AV}{v i:AV}{S S1 S2:af}{k:Nat}(h:cL P f args S fun r b=>r=.ret v∧b=S1)(p:xe k v S1 (iC S1 0 nY [v] [])=some (i,S2)) :
  cL P f args S fun r b=>r=.ret i∧b=S2:=by
 intro g w xs hx hi
 refine(h g w xs hx hi).mono fun e w' ⟨r,b,g', ⟨q,j⟩,a,m,o⟩=>?_
 subst q;subst j
 obtain⟨s,t,u,y⟩:=Ext.tY (Ao rfl) p m o
 refine⟨.ret i,S2,s,⟨rfl,rfl⟩,?_,u,y⟩
 cases e with
 | returned x=>exact t x a
 | panicked c=>exact a.elim
 | outgrown=>exact a.elim
variable {args' : List AV} {Q : gI → af → Prop}
theorem cL.MI {f:FuncId}(j:xe k (.bM args) S (iC S 0 nY args [])=some (.bM args', S2))(h:cL P f args' S2 Q):cL P f args S Q:=by
 intro g w xs hx hi
 obtain⟨m,o,p,q⟩:=Ext.tY (Ao rfl) j hi (Ext.refl _ _ _)
 have s:=o (.tuple xs) (.bM hx.1 hx.2)
 cases s with | bM h1 h2=>?_
 refine(h m w xs ⟨h1,h2⟩ p).mono fun e w' ⟨r,t,g', u,a,b,i⟩=>?_
 exact⟨r,t,g', u,a,b,q.trans i⟩
def Lw (k:Nat)(x:List AV→af→Option (AV×af))(args:List AV)(S:af):Option (AV×af):=
 match xe k (.bM args) S (iC S 0 nY args []) with
 | some (.bM a,S2)=>x a S2
 | _=>none
variable {x : List AV → af → Option (AV × af)}
theorem Fw (hx:∀ args S v e,x args S=some (v,e)→cL P f args S fun r b=>r=.ret v∧b=e)(args:List AV)(S:af)(v:AV)(e:af)(h:Lw k x args S=some (v,e)) :
  cL P f args S fun r b=>r=.ret v∧b=e:=by
 unfold Lw at h
 split at h<;>try (simp at h;done)
 rename_i a S2 i
 exact cL.MI i (hx _ _ _ _ h)
mutual
def sS : AV→Bool
 | .sc _=>true
 | .ax=>true
 | .agg l=>Ep l
 | .bM l=>Ep l
 | .eS _ v=>sS v
 | _=>false
def Ep : List AV→Bool
 | []=>true
 | v::r=>match sS v with
   | true=>Ep r
   | false=>false
end
theorem Cc (h:Ep l=true):∀ {k:Nat} {a:AV},l[k]? = some a→sS a=true:=by
 induction l with
 | nil=>intro k a e;simp at e
 | cons v r b=>
   intro k a e
   simp only[Ep] at h
   split at h<;>try (simp at h;done)
   rename_i i
   cases k with
   | zero=>simp at e;subst e;exact i
   | succ k=>exact b h (by simpa using e)
theorem VR.flat {o:Gh}{x:Value}(h:VR g v x)(i:sS v=true):VR o v x:=by
 induction h with
 | sc h=>exact .sc h
 | agg j _ b=>exact .agg j fun k a x e m=>b k a x e m (Cc (by simpa [sS] using i) e)
 | bM j _ b=>exact .bM j fun k a x e m=>b k a x e m (Cc (by simpa [sS] using i) e)
 | eS _ b=>exact .eS (b (by simpa [sS] using i))
 | ax=>exact .ax
 | _=>simp[sS] at i
theorem cL.read {f:FuncId}(V:so S k (.bM args)=some (.bM args'))(W:bF args' = true)(X:sS v=true)(h:cL P f args' af.empty fun r _=>r=.ret v) :
   cL P f args S fun r O=>r=.ret v∧O=S:=by
 intro g w xs hx hi
 have D:=Gh.gQ hi
 obtain⟨H,E⟩:∃ k:Gh,k=g.freeze S w:=⟨_,rfl⟩
 rw[←E] at D
 have J:=xg hi D k _ _ (.tuple xs) V (.bM hx.1 hx.2)
 cases J with | bM h1 h2=>?_
 have B:∀ b c,H.ro b=some c→∃ t fz,w.heap[b]? = some (.cells c t fz):=by
   intro b c e
   subst E
   simp only[Gh.freeze] at e
   split at e
   · rename_i c' Y;simp only[an] at e;subst e;exact hi.ro _ _ Y
   · split at e
     · rename_i c' t fz hh
       split at e<;>simp only[an,reduceCtorEq] at e
       subst e;exact⟨t,fz,hh⟩
     · simp at e
 have K:Inv af.empty H.bare w:=⟨B,fun id o e=>by rw[af.cS] at e;simp at e,fun id F o o' l l' e=>by rw[af.cS] at e;simp at e,fun _ _=>rfl⟩
 have L:fe H.bare args' xs:=⟨h1,fun k a x e I=>(h2 k a x e I).bare (dS W e)⟩
 refine(h H.bare w xs L K).mono fun e w' ⟨r,O,g', Z,s,M,m⟩=>?_
 subst Z
 obtain⟨C,u⟩:∃ k:Gh,k={ ro:=fun b=>if b<w.heap.size then g.ro b else g'.ro b,ph:=g.ph }:=⟨_,rfl⟩
 have y:∀ b,b<w.heap.size→C.ro b=g.ro b:=fun b i=>by subst u;simp[i]
 have N:∀ b,¬ b<w.heap.size→C.ro b=g'.ro b:=fun b i=>by subst u;simp[i]
 have j:∀ b,b<w.heap.size→w'.heap[b]? = w.heap[b]? := fun b i=>m.gw b i fun id o l e=>by rw[af.cS] at e;simp at e
 have G:∀ b c,g.ro b=some c→b<w.heap.size:=by
   intro b c e
   obtain⟨t,fz,q⟩:=hi.ro b c e
   exact(Array.getElem?_eq_some_iff.1 q).1
 have A:Gh.le g C:=⟨fun b c e=>by rw[y b (G b c e)];exact e,fun _ _ e=>by subst u;exact e⟩
 have z:C.ph=g.ph:=by subst u;rfl
 refine⟨.ret v,S,C,⟨rfl,rfl⟩,?_,⟨?_,?_,?_,?_⟩,⟨m.size,m.os,m.tape,m.output,fun b i _=>j b i,?_,A,Nat.le_refl _,rfl,fun _ _=>rfl,?_,?_,?_,m.fz⟩⟩
 · cases e with
   | returned x=>exact VR.flat s X
   | panicked c=>exact s.elim
   | outgrown=>exact s.elim
 · intro b c e
   by_cases i:b<w.heap.size
   · rw[y b i] at e
     rw[j b i];exact hi.ro b c e
   · rw[N b i] at e;exact M.ro b c e
 · intro id o e
   obtain⟨l,a,b,c⟩:=hi.ob id o e
   refine⟨l,A.ph _ _ a,?_,?_⟩
   · rw[y _ c.lt];exact b
   · rw[j _ c.lt];exact c.mono A
 · intro id F o o' l l' e I p R i
   rw[z] at p R
   exact hi.inj id F o o' l l' e I p R i
 · intro id aH;rw[z];exact hi.fresh id aH
 · intro id o l e e1 U e3
   rw[z] at U
   exact⟨id,o,l,e,e1,U,rfl⟩
 · intro id _;rw[z]
 · intro b c e i;rw[y b i] at e;exact .inl e
 · exact fun _ _ e=>e
def C4 (k:Nat)(x:List AV→af→Option (AV×af))(args:List AV)(S:af):Option (AV×af):=
 match so S k (.bM args) with
 | some (.bM a)=>match bF a with
   | true=>match x a af.empty with
     | some (v,_)=>match sS v with
       | true=>some (v,S)
       | false=>none
     | none=>none
   | false=>none
 | _=>none
theorem Bz (hx:∀ args S v e,x args S=some (v,e)→cL P f args S fun r b=>r=.ret v∧b=e)(args:List AV)(S:af)(v:AV)(e:af)(h:C4 k x args S=some (v,e)) :
  cL P f args S fun r b=>r=.ret v∧b=e:=by
 unfold C4 at h
 split at h<;>try (simp at h;done)
 rename_i a j
 split at h<;>try (simp at h;done)
 rename_i m
 split at h<;>try (simp at h;done)
 rename_i u S1 o
 split at h<;>simp only[an,gU,reduceCtorEq] at h
 rename_i i
 obtain⟨rfl,rfl⟩:=h
 exact cL.read j m i ((hx _ _ _ _ o).mono fun r b q=>q.1)
theorem PC (i:cq T P)(a:P.follows .mixedOrders=true)(args:List AV)(S:af)(v:AV)(b:af)(h:LP T P d k f args S=some (v,b)):cL P f args S fun r e=>r=.ret v∧e=b:=by
 unfold LP at h
 split at h
 · rename_i u S1 j
   exact cL.tY ((St.sound i a j).mono fun r b q=>q) h
 · simp at h
def I1 : List (AV×AV)→List (AV×AV)→Bool
 | [],[]=>true
 | (a,b)::r,(c,d)::s=>match qg a c,qg b d with
   | true,true=>I1 r s
   | _,_=>false
 | _,_=>false
def QX : Option ai→Option ai→Bool
 | some (.arr n a),some (.arr m b)=>match Nat.beq n m with
   | true=>Nn a b
   | false=>false
 | some (.mp a),some (.mp b)=>I1 a b
 | _,_=>false
def BQ : sL→sL→Bool
 | [],[]=>true
 | (i,a)::r,(j,b)::s=>match Nat.beq i j,QX a b with
   | true,true=>BQ r s
   | _,_=>false
 | _,_=>false
theorem O0 : ∀ {a b:List (AV×AV)},I1 a b=true→a=b:=by
 intro a
 induction a with
 | nil=>intro b h;cases b<;>simp[I1] at h;rfl
 | cons p r e=>
   obtain⟨x,y⟩:=p
   intro b h
   cases b with
   | nil=>simp[I1] at h
   | cons q s=>
     obtain⟨x', i⟩:=q
     simp only[I1] at h
     split at h
     · rename_i h1 h2;rw[sy _ _ h1,sy _ _ h2,e h]
     · simp at h
theorem O1 {a b:Option ai}(h:QX a b=true):a=b:=by
 unfold QX at h
 split at h
 · split at h
   · rename_i h1;rw[uG h1,uO _ _ h]
   · simp at h
 · rw[O0 h]
 · simp at h
theorem MJ : ∀ {a b:sL},BQ a b=true→a=b:=by
 intro a
 induction a with
 | nil=>intro b h;cases b<;>simp[BQ] at h;rfl
 | cons p r e=>
   obtain⟨x,y⟩:=p
   intro b h
   cases b with
   | nil=>simp[BQ] at h
   | cons q s=>
     obtain⟨x', i⟩:=q
     simp only[BQ] at h
     split at h
     · rename_i h1 h2;rw[uG h1,O1 h2,e h]
     · simp at h
def BR (n:Nat):List (AV×af)→Option (AV×Nat×sL)
 | []=>none
 | [(v,S)]=>some (v,S.nx,iC S n nY [v] [])
 | (v,S)::r=>match BR n r with
   | some (u,m,c)=>match qg v u,Nat.beq S.nx m,BQ (iC S n nY [v] []) c with
     | true,true,true=>some (u,m,c)
     | _,_,_=>none
   | none=>none
def Iv (T:FT)(P:Program)(n d f:Nat)(args:List AV)(S:af):Option (AV×af):=
 match Nat.ble S.lim S.nx with
 | true=>match St.outs T P d n [St.start T f args ⟨S.nx,S.nx,S.m⟩] with
   | some l=>match BR S.nx l with
     | some (v,m,c)=>some (v,⟨m,S.lim,qQ S.m c⟩)
     | none=>none
   | none=>none
 | false=>none
theorem JI : ∀ {l:List (AV×af)} {v:AV} {m:Nat} {c:sL},BR n l=some (v,m,c)→∀ u S,(u,S)∈l→u=v∧S.nx=m∧iC S n nY [u] []=c:=by
 intro l
 induction l with
 | nil=>intro v m c h;simp[BR] at h
 | cons p r a=>
   obtain⟨x,X⟩:=p
   intro v m c h u S hm
   cases r with
   | nil=>
     simp only[BR,an,gU] at h
     simp only[List.mem_singleton,gU] at hm
     obtain⟨rfl,rfl⟩:=hm
     exact h
   | cons q r=>
     simp only[BR] at h
     split at h<;>try (simp at h;done)
     rename_i i j c' b
     split at h<;>simp only[an,gU,reduceCtorEq] at h
     rename_i h1 h2 h3
     obtain⟨rfl,rfl,rfl⟩:=h
     rcases List.mem_cons.1 hm with e | hm
     · simp only[gU] at e
       obtain⟨rfl,rfl⟩:=e
       exact⟨sy _ _ h1,uG h2,MJ h3⟩
     · exact a b u S hm
theorem cL.quiet {f:FuncId}{lim m:Nat}{t:PT}(hl:lim≤n)(h:cL P f args ⟨n,n,t⟩ Q)(U:∀ r H,Q r H→r=.ret v∧H.nx=m∧iC H n nY [v] []=c) :
   cL P f args ⟨n,lim,t⟩ fun r H=>r=.ret v∧H=⟨m,lim,qQ t c⟩:=by
 intro g w xs hx hi
 have K:Inv ⟨n,n,t⟩ g w:=Inv.less (A:=⟨n,n,t⟩) (B:=⟨n,lim,t⟩) rfl (fun id o e=>e) hi
 refine(h g w xs hx K).mono fun e w' ⟨r,S1,g', V,L,N,i⟩=>?_
 obtain⟨W,O,X⟩:=U r S1 V
 subst W
 have C:∀ id ob,(id,ob)∈c→n≤id∧S1.get id≠none∧ob=S1.get id:=by
   intro id ob e
   rw[←X] at e
   rcases nI e with q | q
   · simp at q
   · exact q
 have D:∀ id ob,(id,ob)∈c→Ok id:=by
   intro id ob e
   obtain⟨_,a,_⟩:=C id ob e
   cases q:S1.get id with
   | none=>exact absurd q a
   | some y=>exact af.dG q
 have u:∀ id o,(⟨n,n,t⟩:af).get id=some o→n≤id→False:=fun id o e Y=>by have:=K.iZ e;exact absurd this (Nat.not_lt.2 Y)
 have F:∀ b,b<w.heap.size→w'.heap[b]? = w.heap[b]? := fun b j=>i.gw b j fun id o l e M=>(u id o e M).elim
 obtain⟨S2,s⟩:∃ x:af,x=⟨m,lim,qQ t c⟩:=⟨_,rfl⟩
 have p:∀ id,id<n→S2.get id=(⟨n,lim,t⟩:af).get id:=by
   intro id aH
   by_cases j:Ok id
   · rw[af.bK j,af.bK j,s]
     refine rT j D ?_
     cases q:nV c id with
     | false=>rfl
     | true=>obtain⟨ob,q⟩:=pK q;have:=(C id ob q).1;omega
   · rw[af.fG j,af.fG j]
 have G:∀ id,(⟨n,lim,t⟩:af).get id=(⟨n,n,t⟩:af).get id:=fun id=>rfl
 have z:∀ id o,S2.get id=some o→S1.get id=some o:=by
   intro id o e
   by_cases aH:id<n
   · rw[p id aH,G] at e
     rw[i.rM id aH];exact e
   · have j:=af.dG e
     rw[af.bK j,s] at e
     have e:PT.get dep (qQ t c) id=some o:=e
     cases q:nV c id with
     | true=>
       obtain⟨ob,I,J⟩:=zf (m:=t) j D q
       rw[J] at e
       rw[←(C id ob I).2.2];exact e
     | false=>
       rw[rT j D q] at e
       have:(⟨n,n,t⟩:af).get id=some o:=by rw[af.bK j];exact e
       exact(u id o this (by omega)).elim
 rw[←s]
 refine⟨.ret v,S2,g', ⟨rfl,rfl⟩,L,N.less (by rw[s];exact O.symm) z,⟨i.size,i.os,i.tape,i.output,fun b j _=>F b j,?_,i.mJ,by rw[s,←O];exact i.nx,by rw[s],?_,i.qN,?_,?_,i.fz⟩⟩
 · intro id o l e M R Z
   by_cases aH:id<n
   · rw[p id aH] at e
     exact⟨id,o,l,e,M,by rw[←i.qN id aH];exact R,rfl⟩
   · obtain⟨E,o0,l0,I,J,_⟩:=i.own id o l (z id o e) (by show n≤id;omega) R Z
     exact(u E o0 I J).elim
 · intro id aH
   have aH:id<lim:=aH
   exact p id (by omega)
 · intro b c0 e j
   rcases i.vl b c0 e j with q | ⟨E,o0,l0,I,J,_⟩
   · exact .inl q
   · exact(u E o0 I J).elim
 · intro id aH e
   rw[p id aH];exact e
theorem Nw (p:cq T P)(e:P.follows .mixedOrders=true)(args:List AV)(S:af)(v:AV)(o:af)(h:Iv T P n d f args S=some (v,o)):cL P f args S fun r j=>r=.ret v∧j=o:=by
 unfold Iv at h
 split at h<;>try (simp at h;done)
 rename_i q
 split at h<;>try (simp at h;done)
 rename_i l i
 split at h<;>simp only[an,gU,reduceCtorEq] at h
 rename_i u m c s
 obtain⟨rfl,rfl⟩:=h
 exact cL.quiet (ed q) (An p e i) fun r S1 ⟨x,a,b⟩=>by
  obtain⟨t,w,y⟩:=JI s x S1 b
  subst t
  exact⟨a,w,y⟩
end
def P5 (x y:List AV→af→Option (AV×af))(args:List AV)(S:af):Option (AV×af):=
 match x args S with
 | some r=>some r
 | none=>y args S
variable {f : Nat} {x : List AV → af → Option (AV × af)} {P : Program}
theorem Qr {y:List AV→af→Option (AV×af)}(hx:∀ args S v b,x args S=some (v,b)→cL P f args S fun r a=>r=.ret v∧a=b)(i:∀ args S v b,y args S=some (v,b)→cL P f args S fun r a=>r=.ret v∧a=b)(args:List AV)(S:af)(v:AV)(b:af)(h:P5 x y args S=some (v,b)):cL P f args S fun r a=>r=.ret v∧a=b:=by
 unfold P5 at h
 split at h
 · rename_i r e
   simp only[an] at h;subst h
   exact hx _ _ _ _ e
 · exact i _ _ _ _ h
def wQ.A3 (P:Program)(f:Nat)(e:wQ):Prop:=P.funcs[f]? = some e.fn∧e.fn.body=some e.body∧mb P f=true∧e.ext=none
def AW (P:Program):Nat→Nat→Nat→FT→Prop
 | _,_,_,.nil=>True
 | 0,b,_,.node o _ _=>match o with
   | some e=>wQ.A3 P b e
   | none=>True
 | d+1,b,s,.node _ l r=>AW P d b (2*s) l∧AW P d (b+s) (2*s) r
theorem O2 : ∀ {d b s:Nat} {T:FT} {i:Nat} {e:wQ},AW P d b s T→i<2 ^ d→FT.get d T i=some e→wQ.A3 P (b+s*i) e:=by
 intro d
 induction d with
 | zero=>
   intro b s T i e h hi a
   cases T with
   | nil=>simp[FT.get] at a
   | node o l r=>
     simp only[FT.get] at a
     subst a
     have:i=0:=by simpa using hi
     subst this
     simpa [AW] using h
 | succ d m=>
   intro b s T i e h hi a
   cases T with
   | nil=>simp[FT.get] at a
   | node o l r=>
     obtain⟨h1,h2⟩:=h
     have p:2 ^ (d+1)=2*2 ^ d:=by rw[Nat.pow_succ];omega
     simp only[FT.get] at a
     split at a
     · rename_i j
       have j:=uG j
       have:=m h1 (by omega) a
       rw[show b+2*s*(i/2)=b+s*i from by rw[Nat.mul_comm 2 s,Nat.mul_assoc,show 2*(i/2)=i from by omega]] at this
       exact this
     · rename_i j
       have j:i%2=1:=by
        have:=Nat.mod_two_eq_zero_or_one i
        rcases this with q | q
        · rw[q] at j;simp at j
        · exact q
       have:=m h2 (by omega) a
       rw [show b+s+2*s*(i/2)=b+s*i from by rw[Nat.mul_comm 2 s,Nat.mul_assoc,Nat.add_assoc,show s+s*(2*(i/2))=s*i from by
        rw[show s+s*(2*(i/2))=s*(2*(i/2)+1) from by rw[Nat.mul_add,Nat.mul_one,Nat.add_comm],show 2*(i/2)+1=i from by omega]]] at this
       exact this
variable {T : FT}
theorem cq.base (h:AW P 10 0 1 T):cq T P:=by
 intro f e i
 unfold FT.look at i
 split at i
 · rename_i j
   have j:=ed j
   obtain⟨a,b,c,d⟩:=O2 h (show f<2 ^ 10 from j) i
   rw[show 0+1*f=f from by omega] at a c
   exact⟨a,b,c,fun x hx=>by rw[d] at hx;simp at hx⟩
 · simp at i
theorem MK : ∀ {d:Nat} {T:FT} {i j:Nat} {e:wQ},i<2 ^ d→j<2 ^ d→FT.get d (FT.CC d T i x) j=some e→FT.get d T j=some e∨(j=i∧∃ a,FT.get d T j=some a∧e={ a with ext:=some x }):=by
 intro d
 induction d with
 | zero=>
   intro T i j e hi s h
   cases T with
   | nil=>simp[FT.CC,FT.get] at h
   | node o l r=>
     have hi:i=0:=by simpa using hi
     have s:j=0:=by simpa using s
     cases o with
     | none=>simp[FT.CC,FT.get] at h
     | some a=>
       simp only[FT.CC,FT.get,an] at h
       exact .inr ⟨by omega,a,rfl,h.symm⟩
 | succ d w=>
   intro T i j e hi s h
   have z:2 ^ (d+1)=2*2 ^ d:=by rw[Nat.pow_succ];omega
   have p:∀ {n:Nat},Nat.beq (n%2) 0=false→n%2=1:=by
     intro n y
     rcases Nat.mod_two_eq_zero_or_one n with q | q
     · rw[q] at y;simp at y
     · exact q
   cases T with
   | nil=>simp[FT.CC,FT.get] at h
   | node o l r=>
     simp only[FT.CC] at h
     cases b:Nat.beq (i%2) 0<;>rw[b] at h<;>cases m:Nat.beq (j%2) 0<;>simp only[FT.get,m] at h ⊢
     · rcases w (by omega) (by omega) h with q | ⟨q,a,t,u⟩
       · exact .inl q
       · have:=p b;have:=p m
         exact .inr ⟨by omega,a,t,u⟩
     · exact .inl h
     · exact .inl h
     · rcases w (by omega) (by omega) h with q | ⟨q,a,t,u⟩
       · exact .inl q
       · have:=uG b;have:=uG m
         exact .inr ⟨by omega,a,t,u⟩
def FT.C5 (T:FT)(f:Nat)(x:List AV→af→Option (AV×af)):FT:=FT.CC 10 T f x
theorem cq.ext (h:cq T P)(t:f<1024)(hx:∀ args S v p,x args S=some (v,p)→cL P f args S fun r m=>r=.ret v∧m=p):cq (T.C5 f x) P:=by
 intro g e i
 unfold FT.look at i
 split at i
 · rename_i j
   have o:=ed j
   rcases MK (show f<2 ^ 10 from t) (show g<2 ^ 10 from o) i with q | ⟨rfl,u,w,z⟩
   · exact h g e (by unfold FT.look;rw[j];exact q)
   · obtain⟨a,b,c,_⟩:=h g u (by unfold FT.look;rw[j];exact w)
     subst z
     refine⟨a,b,c,fun y s=>?_⟩
     simp only[an] at s
     subst s;exact hx
 · simp at i
end
end Go.Eng

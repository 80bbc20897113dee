/- Frames, contracts of functions, and regions without an order; no conditions. -/
import Derived.Test.YthplmmeobggkfaaGreatVEngB
import Derived.Orders
set_option linter.all false
namespace Go.Eng
noncomputable section
mutual
def aV : AV→Bool
 | .sc _=>true
 | .agg cs=>cG cs
 | .fw=>true
 | .an=>true
 | .lit es=>cG es
 | .dO cs=>cG cs
 | .ptr _ _ _=>false
 | .ai _ _ _=>false
 | .cR _=>false
 | .fn _ a b=>match cG a with
   | true=>cG b
   | false=>false
 | .eB _ v=>aV v
 | .bO c=>cG c
 | .sj _=>false
 | .clip v=>aV v
 | .top=>true
def cG : List AV→Bool
 | []=>true
 | v::r=>match aV v with
   | true=>cG r
   | false=>false
end
theorem fO {l:List AV}(h:cG l=true):∀ {k:Nat} {a:AV},l[k]? = some a→aV a=true:=by
 induction l with
 | nil=>intro k a e;simp at e
 | cons v r b=>
   intro k a e
   simp only[cG] at h
   split at h<;>try (simp at h;done)
   rename_i c
   cases k with
   | zero=>simp_all
   | succ k=>exact b h (by simpa using e)
theorem kB {e:AV}(h:aV e=true){j:Nat}{a:AV}(b:e.cells[j]? = some a):aV a=true:=by
 cases e with
 | agg cs=>exact fO (l:=cs) (by simpa [aV] using h) b
 | _=>
   cases j<;>simp_all[AV.cells]
def Gh.bare (g:Gh):Gh:={ ro:=g.ro,ph:=fun _=>none }
theorem VR.bare {g:Gh}{v:AV}{x:Value}(h:VR g v x)(b:aV v=true):VR g.bare v x:=by
 induction h with
 | sc h=>exact .sc h
 | agg d _ c=>exact .agg d fun k a x e f=>c k a x e f (fO (by simpa [aV] using b) e)
 | fw=>exact .fw
 | an=>exact .an
 | lit m hs hb l _ c=>exact .lit m hs hb l fun i j e a x p q r=>c i j e a x p q r (kB (fO (by simpa [aV] using b) p) q)
 | jZ=>exact .jZ
 | dO m hb _ c=>exact .dO m hb fun j a x p q=>c j a x p q (fO (by simpa [aV] using b) p)
 | ptr d=>simp[aV] at b
 | ai d o hb=>simp[aV] at b
 | hZ=>simp[aV] at b
 | cR d=>simp[aV] at b
 | fn hx hy _ _ c n=>
   simp only[aV] at b
   split at b<;>try (simp at b;done)
   rename_i ha
   exact .fn hx hy (fun k a x e f=>c k a x e f (fO ha e)) (fun k a x e f=>n k a x e f (fO b e))
 | eB _ c=>exact .eB (c (by simpa [aV] using b))
 | bO d _ c=>exact .bO d fun k a x e f=>c k a x e f (fO (by simpa [aV] using b) e)
 | sj d=>simp[aV] at b
 | clip _ c=>exact .clip (c (by simpa [aV] using b))
 | top=>exact .top
theorem fY.frame {P:Program}{f:FuncId}{args:List AV}{v:AV}(ha:cG args=true)(F:aV v=true)(h:fY P f args ag.empty fun r _=>r=.ret v)(S:ag) :
   fY P f args S fun r E=>r=.ret v∧E=S:=by
 intro g w xs hx hi
 have A:Inv ag.empty g.bare w:=⟨hi.ro,fun id o e=>by rw[ag.fN] at e;simp at e,fun id s o o' l l' e=>by rw[ag.fN] at e;simp at e,fun _ _=>rfl⟩
 have B:hM g.bare args xs:=⟨hx.1,fun k a x e u=>(hx.2 k a x e u).bare (fO ha e)⟩
 refine(h g.bare w xs B A).mono fun e w' ⟨r,E,g', y,j,C,d⟩=>?_
 subst y
 obtain⟨z,i⟩:∃ k:Gh,k={ ro:=g'.ro,ph:=g.ph }:=⟨_,rfl⟩
 have D:∀ b c,g'.ro b=some c→b<w.heap.size→g.ro b=some c:=by
   intro b c e hb
   rcases d.C2 b c e hb with q | ⟨J,o0,K,q,_⟩
   · exact q
   · rw[ag.fN] at q;simp at q
 have m:∀ b,b<w.heap.size→w'.heap[b]? = w.heap[b]? := fun b hb=>d.jr b hb fun id o l e=>by rw[ag.fN] at e;simp at e
 have n:Gh.le g z:=by subst i;exact⟨fun b c e=>d.pc.ro b c e,fun _ _ e=>e⟩
 have t:Gh.le g'.bare z:=by subst i;exact⟨fun _ _ e=>e,fun _ _ e=>by simp[Gh.bare] at e⟩
 refine⟨.ret v,S,z,⟨rfl,rfl⟩,?_,⟨?_,?_,?_,?_⟩,⟨d.size,d.os,d.tape,d.output,fun b hb _=>m b hb,?_,n,bJ _,rfl,fun _ _=>rfl,?_,?_,?_,d.fz⟩⟩
 · cases e with
   | returned x=>exact(VR.bare j F).mono t
   | panicked c=>exact j.elim
   | outgrown=>exact j.elim
 · intro b c e;subst i;exact C.ro b c e
 · intro id o e
   obtain⟨l,a,b,c⟩:=hi.ob id o e
   refine⟨l,n.ph _ _ a,?_,?_⟩
   · subst i
     cases y:g'.ro l.cU with
     | none=>rfl
     | some cc=>rw[D _ _ y c.lt] at b;simp at b
   · rw[m _ c.lt];exact c.mono n
 · intro id s o o' l l' e u p G hb
   subst i;exact hi.inj id s o o' l l' e u p G hb
 · intro id bE;subst i;exact hi.fresh id bE
 · intro id o l e H I L
   subst i;exact⟨id,o,l,e,H,I,rfl⟩
 all_goals simp_all
end
noncomputable section
mutual
def vp (S:ag):Nat→AV→Option AV
 | 0,_=>none
 | n+1,.ai id off len=>match S.get id with
   | some (.arr _ es)=>match Nat.ble (off+len) es.length with
     | true=>match Fe S n ((es.drop off).take len) with
       | some l=>some (.lit l)
       | none=>none
     | false=>none
   | _=>none
 | n+1,.agg cs=>match Fe S n cs with
   | some l=>some (.agg l)
   | none=>none
 | n+1,.bO cs=>match Fe S n cs with
   | some l=>some (.bO l)
   | none=>none
 | n+1,.lit cs=>match Fe S n cs with
   | some l=>some (.lit l)
   | none=>none
 | n+1,.eB t v=>match vp S n v with
   | some x=>some (.eB t x)
   | none=>none
 | n+1,.clip v=>match vp S n v with
   | some x=>some (.clip x)
   | none=>none
 | _+1,.sc v=>some (.sc v)
 | _+1,.fw=>some .fw
 | _+1,.an=>some .an
 | _+1,_=>none
def Fe (S:ag):Nat→List AV→Option (List AV)
 | 0,_=>none
 | _+1,[]=>some []
 | n+1,v::r=>match vp S n v with
   | some x=>match Fe S n r with
     | some l=>some (x::l)
     | none=>none
   | none=>none
end
variable {S : ag}
theorem uV : ∀ {n:Nat} {l l' : List AV},Fe S n l=some l' → l'.length=l.length∧∀(k:Nat) (a:AV),l[k]? = some a→∃(m:Nat) (b:AV),m<n∧vp S m a=some b∧l'[k]? = some b:=by
 intro n
 induction n with
 | zero=>intro l l' h;simp[Fe] at h
 | succ n d=>
   intro l l' h
   cases l with
   | nil=>simp only[Fe,ba] at h;simp_all
   | cons v r=>
     simp only[Fe] at h
     split at h<;>try (simp at h;done)
     rename_i x hx
     split at h<;>simp only[ba,reduceCtorEq] at h
     rename_i l2 c
     subst h
     obtain⟨h1,h2⟩:=d c
     refine⟨by simp[h1],fun k a e=>?_⟩
     cases k with
     | zero=>simp at e;subst e;exact⟨n,x,by omega,hx,rfl⟩
     | succ k=>
       obtain⟨m,b,p,q,f⟩:=h2 k a (by simpa using e)
       exact⟨m,b,by omega,q,by simpa using f⟩
def Gh.frozen (S:ag)(g:Gh)(w:World)(n:Gh):Prop:=
 Gh.le g n∧n.ph=g.ph∧(∀ id o l c t fz,S.get id=some o→g.ph id=some l→w.heap[l.cU]? = some (.cells c t fz)→n.ro l.cU=some c)
variable {n : Nat}
theorem IG {v v' : AV}(h:vp S n v=some v'):(∃ cs a m,n=m+1∧v=.agg cs∧v' = .agg a∧Fe S m cs=some a)∨(v.cells=[v]∧v'.cells=[v']):=by
 cases n with
 | zero=>simp[vp] at h
 | succ n=>
   cases v with
   | agg cs=>
     simp only[vp] at h
     split at h<;>simp only[ba,reduceCtorEq] at h
     simp_all
   | ai id off len=>
     simp only[vp] at h
     split at h<;>try (simp at h;done)
     split at h<;>try (simp at h;done)
     split at h<;>simp only[ba,reduceCtorEq] at h
     subst h;exact .inr ⟨rfl,rfl⟩
   | bO cs=>simp only[vp] at h;split at h<;>simp only[ba,reduceCtorEq] at h;subst h;exact .inr ⟨rfl,rfl⟩
   | lit cs=>simp only[vp] at h;split at h<;>simp only[ba,reduceCtorEq] at h;subst h;exact .inr ⟨rfl,rfl⟩
   | clip v=>simp only[vp] at h;split at h<;>simp only[ba,reduceCtorEq] at h;subst h;exact .inr ⟨rfl,rfl⟩
   | eB t v=>simp only[vp] at h;split at h<;>simp only[ba,reduceCtorEq] at h;subst h;exact .inr ⟨rfl,rfl⟩
   | sc v=>simp only[vp,ba] at h;subst h;exact .inr ⟨rfl,rfl⟩
   | fw=>simp only[vp,ba] at h;subst h;exact .inr ⟨rfl,rfl⟩
   | an=>simp only[vp,ba] at h;subst h;exact .inr ⟨rfl,rfl⟩
   | _=>simp[vp] at h
theorem r9 {l l' : List AV}(h:Fe S n l=some l'){k:Nat}{b:AV}(e:l'[k]? = some b):∃(m:Nat) (a:AV),m<n∧vp S m a=some b∧l[k]? = some a:=by
 obtain⟨h1,h2⟩:=uV h
 have c:k<l.length:=by have:=(lr.1 e).1;omega
 obtain⟨m,a2,p,q,r⟩:=h2 k l[k] (qm c)
 rw[e] at r;simp only[ba] at r;subst r
 exact⟨m,_,p,q,qm c⟩
variable {g gn : Gh} {m : Nat} {e0 e : AV}
theorem LV (b:∀ m,m<n→∀(v v' : AV) (x:Value),vp S m v=some v' → VR g v x→VR gn v' x)(c:m<n){a:AV}(hf:vp S m e0=some e){j:Nat}(ha:e.cells[j]? = some a){x:Value}(h:∀ a0,e0.cells[j]? = some a0→VR g a0 x):VR gn a x:=by
 rcases IG hf with⟨cs,l,q,rfl,rfl,rfl,d⟩ | ⟨c1,c2⟩
 · obtain⟨f,a0,o,i,k⟩:=r9 d ha
   exact b f (by omega) a0 a x i (h a0 k)
 · rw[c2] at ha
   cases j with
   | zero=>simp at ha;subst ha;exact b m c e0 _ x hf (h e0 (by rw[c1];rfl))
   | succ j=>simp at ha
theorem Qx (hf:vp S m e0=some e):e.cells.length=e0.cells.length:=by
 rcases IG hf with⟨cs,b,q,rfl,rfl,rfl,a⟩ | ⟨c1,c2⟩
 · exact(uV a).1
 · rw[c1,c2];rfl
variable {w : World}
theorem Cl (hi:Inv S g w)(H:Gh.frozen S g w gn):∀(n:Nat) (v v' : AV) (x:Value),vp S n v=some v' → VR g v x→VR gn v' x:=by
 intro n
 induction n using Nat.strongRecOn with
 | _ n G=>
   intro v v' x h s
   cases n with
   | zero=>simp[vp] at h
   | succ n=>
     cases v with
     | ai id off len=>
       simp only[vp] at h
       split at h<;>try (simp at h;done)
       rename_i sz es K
       split at h<;>try (simp at h;done)
       rename_i hb
       have hb:=gb hb
       split at h<;>simp only[ba,reduceCtorEq] at h
       rename_i l z
       subst h
       obtain⟨f,_⟩:=uV z
       have C:l.length=len:=by rw[f];simp;omega
       cases s with
       | hZ=>
         have:l=[]:=vA C
         subst this;exact .jZ
       | ai L Z Y=>
         rename_i cap B
         obtain⟨l1,M,a2,a3⟩:=hi.ob _ _ K
         rw[L] at M;simp only[ba] at M;subst M
         obtain⟨c,t,U,b2,N,b4,V,W⟩:=a3
         have P:=H.2.2 id _ _ c t (0,0) K L U
         have A:∀ i e,l[i]? = some e→∃(m:Nat) (e0:AV),m<n∧vp S m e0=some e∧es[off+i]? = some e0∧i<len:=by
          intro i e I
          obtain⟨m,e0,J,u,d⟩:=r9 z I
          rw[sx] at d
          split at d<;>try (simp at d;done)
          rw[su] at d
          exact⟨m,e0,J,u,d,by assumption⟩
         have R:(off+len)*B.sz≤es.length*sz:=by rw[N];exact xY _ hb
         have Q:(off+len)*B.sz=off*B.sz+len*B.sz:=fV _ _ _
         have key:VR gn (.lit l) (.slice (some ⟨B.cU,B.base+off*B.sz,none⟩) l.length cap):=by
          refine VR.lit (sz:=B.sz) P ?_ ?_ (by omega) ?_
          · intro e I
            obtain⟨i,D,E⟩:=List.mem_iff_getElem.1 I
            obtain⟨m,e0,_,u,d,_⟩:=A i e (by rw[qm D,E])
            rw[Qx u,V e0 (uI d),N]
          · rw[C];omega
          · intro i j e a y p q r
            obtain⟨m,e0,J,u,d,_⟩:=A i e p
            refine LV (n:=n+1) G (by omega) u q fun a0 F=>W (off+i) j e0 a0 y d F ?_
            rw[←r]
            congr 1
            rw[←N,fV];omega
         rw[C] at key;exact key
     | agg cs=>
       simp only[vp] at h
       split at h<;>simp only[ba,reduceCtorEq] at h
       rename_i l z
       subst h
       cases s with | agg h1 h2=>?_
       refine .agg (by rw[(uV z).1];exact h1) fun k a y e O=>?_
       obtain⟨m,a0,J,u,d⟩:=r9 z e
       exact G m (by omega) a0 a y u (h2 k a0 y d O)
     | bO cs=>
       simp only[vp] at h
       split at h<;>simp only[ba,reduceCtorEq] at h
       rename_i l z
       subst h
       cases s with | bO h1 h2=>?_
       refine .bO (by rw[(uV z).1];exact h1) fun k a y e O=>?_
       obtain⟨m,a0,J,u,d⟩:=r9 z e
       exact G m (by omega) a0 a y u (h2 k a0 y d O)
     | lit cs=>
       simp only[vp] at h
       split at h<;>simp only[ba,reduceCtorEq] at h
       rename_i l z
       subst h
       have f:=(uV z).1
       cases s with
       | lit X hs hb T h2=>
         rename_i b o sz cap c
         have key:VR gn (.lit l) (.slice (some ⟨b,o,none⟩) l.length cap):=by
          refine VR.lit (sz:=sz) (H.1.ro _ _ X) ?_ (by rw[f];exact hb) (by omega) ?_
          · intro e I
            obtain⟨i,D,E⟩:=List.mem_iff_getElem.1 I
            obtain⟨m,e0,_,u,d⟩:=r9 z (by rw[qm D,E])
            rw[Qx u];exact hs e0 (uI d)
          · intro i j e a y p q r
            obtain⟨m,e0,J,u,d⟩:=r9 z p
            exact LV (n:=n+1) G (by omega) u q fun a0 F=>h2 i j e0 a0 y d F r
         rw[f] at key;exact key
       | jZ=>
         have:l=[]:=vA f
         subst this;exact .jZ
     | eB t v=>
       simp only[vp] at h
       split at h<;>simp only[ba,reduceCtorEq] at h
       rename_i y hy
       subst h
       cases s with | eB s=>exact .eB (G n (by omega) v y _ hy s)
     | clip v=>
       simp only[vp] at h
       split at h<;>simp only[ba,reduceCtorEq] at h
       rename_i y hy
       subst h
       cases s with | clip s=>exact .clip (G n (by omega) v y _ hy s)
     | sc v=>simp only[vp,ba] at h;subst h;exact s.mono H.1
     | fw=>simp only[vp,ba] at h;subst h;exact s.mono H.1
     | an=>simp only[vp,ba] at h;subst h;exact s.mono H.1
     | _=>simp[vp] at h
open Classical in
noncomputable def Gh.freeze (g:Gh)(S:ag)(w:World):Gh:=
 { ro:=fun b=>match g.ro b with
    | some c=>some c
    | none=>match w.heap[b]? with
      | some (.cells c _ _)=>if(∃ id o l,S.get id=some o∧g.ph id=some l∧l.cU=b) then some c else none
      | _=>none
   ph:=g.ph }
theorem Gh.jY (hi:Inv S g w):Gh.frozen S g w (g.freeze S w):=by
 refine⟨⟨fun b c e=>by simp[Gh.freeze,e],fun _ _ e=>e⟩,rfl,fun id o l c t fz d f h=>?_⟩
 obtain⟨l', a,a2,_⟩:=hi.ob id o d
 rw[f] at a;simp only[ba] at a;subst a
 simp only[Gh.freeze,a2,h]
 rw[if_pos ⟨id,o,l,d,f,rfl⟩]
theorem fY.freeze {P:Program}{f:FuncId}{args:List AV}{v' : AV}{Q:gL→ag→Prop}{n:Nat}(h:fY P f args ag.empty Q)(z:∀ r d,Q r d→∃ v,r=.ret v∧vp d n v=some v') :
   fY P f args ag.empty fun r _=>r=.ret v' := by
 intro g w xs hx hi
 refine(h g w xs hx hi).mono fun e w' ⟨r,d,g', A,i,k,a⟩=>?_
 obtain⟨v,B,hf⟩:=z r d A
 subst B
 have s:=Gh.jY k
 have p:∀ id,(⟨d.nx,d.lim,.nil⟩:ag).get id=none:=by
   simp_all[ag.cE,PT.get_nil]
 have j:∀ b c,(g'.freeze d w').ro b=some c→g'.ro b=some c∨(∃ t fz,w'.heap[b]? = some (.cells c t fz))∧∃ id o l,d.get id=some o∧g'.ph id=some l∧l.cU=b:=by
   intro b c e
   simp only[Gh.freeze] at e
   split at e
   · rename_i c' C;simp only[ba] at e;subst e;exact .inl C
   · split at e
     · rename_i c' t fz hh
       split at e<;>simp only[ba,reduceCtorEq] at e
       rename_i u
       subst e;exact .inr ⟨⟨t,fz,hh⟩,u⟩
     · simp at e
 refine⟨.ret v', ⟨d.nx,d.lim,.nil⟩,g'.freeze d w', rfl,?_,⟨?_,?_,?_,?_⟩,⟨a.size,a.os,a.tape,a.output,a.jr,?_,Gh.le_trans a.pc s.1,a.nx,a.lim,?_,a.wY,?_,fun id _ _=>p id,a.fz⟩⟩
 · cases e with
   | returned x=>exact Cl k s n v v' x hf i
   | panicked c=>exact i.elim
   | outgrown=>exact i.elim
 · intro b c e
   rcases j b c e with q | ⟨q,_⟩
   · exact k.ro b c q
   · exact q
 · intro id o e;rw[p] at e;simp at e
 · intro id E o o' l l' e;rw[p] at e;simp at e
 · exact k.fresh
 · intro id o l e;rw[p] at e;simp at e
 · intro id bE;exact absurd bE (Nat.not_lt_zero id)
 · intro b c e hb
   rcases j b c e with q | ⟨_,id,o,l,D,q2,q3⟩
   · exact a.C2 b c q hb
   · obtain⟨F,o0,G,y,_⟩:=a.own id o l D (bU id) q2 (by rw[q3];exact hb)
     rw[ag.fN] at y;simp at y
end
noncomputable section
variable {ρ ρ' : Operand → Option AV}
theorem tR : ∀ {l:List Operand},(∀ x,x∈l→ρ x=ρ' x)→rA ρ l=rA ρ' l:=by
 intro l
 induction l<;>simp_all[rA]
theorem Dq : ∀ {l:List (Nat×Operand)},(∀ x,x∈l.map (·.2)→ρ x=ρ' x)→xd ρ l=xd ρ' l:=by
 intro l
 induction l with
 | nil=>intro _;rfl
 | cons p r a=>intro h;simp_all[xd]
variable {P : Program}
theorem RX {S:ag}{o:Op}(h:∀ x,x∈o.operands.toList→ρ x=ρ' x):gJ P ρ S o=gJ P ρ' S o:=by
 cases o with
 | build t p=>
   have:=Dq (l:=p.toList) fun x hx=>h x (by simpa [Op.operands] using hx)
   simp only[gJ,this]
 | buildSlice t n p=>
   have:=Dq (l:=p.toList) fun x hx=>h x (by simpa [Op.operands] using hx)
   simp only[gJ,this]
 | makeFunc f a b=>
   have h1:=tR (l:=a.toList) fun x hx=>h x (by simp only[Op.operands,B7,dG];exact .inl hx)
   have h2:=tR (l:=b.toList) fun x hx=>h x (by simp only[Op.operands,B7,dG];exact .inr hx)
   simp only[gJ,h1,h2]
 | makeMap t r=>cases r<;>rfl
 | slice t x lo hi m=>
   cases m with
   | some m=>
     have e:=h x (by simp[Op.operands])
     have h3:=h m (by simp[Op.operands])
     cases lo with
     | some a=>
       have h1:=h a (by simp[Op.operands])
       cases hi with
       | none=>rfl
       | some b=>have h2:=h b (by simp[Op.operands]);simp only[gJ,e,h1,h2,h3]
     | none=>
       cases hi with
       | none=>rfl
       | some b=>have h2:=h b (by simp[Op.operands]);simp only[gJ,e,h2,h3]
   | none=>
     have e:=h x (by simp[Op.operands])
     cases lo with
     | none=>
       cases hi with
       | none=>simp only[gJ,e]
       | some b=>have h2:=h b (by simp[Op.operands]);simp only[gJ,e,h2]
     | some a=>
       have h1:=h a (by simp[Op.operands])
       cases hi with
       | none=>simp only[gJ,e,h1]
       | some b=>have h2:=h b (by simp[Op.operands]);simp only[gJ,e,h1,h2]
 | call c=>
   have h1:=tR (l:=c.args.toList) fun x hx=>h x (by simp only[Op.operands,Call.operands,B7,dG];exact .inr hx)
   simp only[gJ,xo,h1]
   cases j:c.callee with
   | builtin b=>rfl
   | invoke r n=>have h2:=h r (by simp[Op.operands,Call.operands,j]);simp only[h2]
   | value f=>have h2:=h f (by simp[Op.operands,Call.operands,j]);simp only[h2]
 | defer c=>
   have h1:=tR (l:=c.args.toList) fun x hx=>h x (by simp only[Op.operands,Call.operands,B7,dG];exact .inr hx)
   simp only[gJ,h1]
   cases j:c.callee with
   | builtin b=>rfl
   | invoke r n=>rfl
   | value f=>have h2:=h f (by simp[Op.operands,Call.operands,j]);simp only[h2]
 | alloc t=>rfl
 | pick c a b=>simp only[gJ,h c (by simp[Op.operands]),h a (by simp[Op.operands]),h b (by simp[Op.operands])]
 | mapUpdate t m k x=>simp only[gJ,h m (by simp[Op.operands]),h k (by simp[Op.operands]),h x (by simp[Op.operands])]
 | insert t m k x=>simp only[gJ,h m (by simp[Op.operands]),h k (by simp[Op.operands]),h x (by simp[Op.operands])]
 | store t a x=>simp only[gJ,h a (by simp[Op.operands]),h x (by simp[Op.operands])]
 | binOp o t a x u=>simp only[gJ,h a (by simp[Op.operands]),h x (by simp[Op.operands])]
 | makeSlice t a x=>simp only[gJ,h a (by simp[Op.operands]),h x (by simp[Op.operands])]
 | indexAddr t a x=>simp only[gJ,h a (by simp[Op.operands]),h x (by simp[Op.operands])]
 | index t a x=>simp only[gJ,h a (by simp[Op.operands]),h x (by simp[Op.operands])]
 | lookup t a x c=>simp only[gJ,h a (by simp[Op.operands]),h x (by simp[Op.operands])]
 | move x=>simp only[gJ,h x (by simp[Op.operands])]
 | assign x=>simp only[gJ,h x (by simp[Op.operands])]
 | box t x=>simp only[gJ,h x (by simp[Op.operands])]
 | load t x=>simp only[gJ,h x (by simp[Op.operands])]
 | nilCheck x=>simp only[gJ,h x (by simp[Op.operands])]
 | unOp o t x=>simp only[gJ,h x (by simp[Op.operands])]
 | convert s d x=>simp only[gJ,h x (by simp[Op.operands])]
 | makeInterface t x=>simp only[gJ,h x (by simp[Op.operands])]
 | fieldAddr t x f=>simp only[gJ,h x (by simp[Op.operands])]
 | field t x f=>simp only[gJ,h x (by simp[Op.operands])]
 | range t x=>simp only[gJ,h x (by simp[Op.operands])]
 | next x s=>simp only[gJ,h x (by simp[Op.operands])]
 | entry x=>simp only[gJ,h x (by simp[Op.operands])]
 | typeAssert x a b c=>simp only[gJ,h x (by simp[Op.operands])]
 | extract x i=>simp only[gJ,h x (by simp[Op.operands])]
 | panic x=>simp only[gJ,h x (by simp[Op.operands])]
 | _=>rfl
def Zz (g:Gh)(all:Array Oper)(o:Oper)(get:Nat→Option AV)(fr:Frame):Prop:=∀ t,t∈o.looksAt all→∀ u,get t=some u→∃ x,fr.tmps[t]? = some x∧VR g u x
def looked (all:Array Oper)(o:Oper)(F:ae):Operand→Option AV
 | .tmp t=>if t∈o.looksAt all then F.get t else none
 | x=>F.eval x
variable {g : Gh} {all : Array Oper} {o : Oper} {F : ae} {fr : Frame}
theorem AT (h:Zz g all o F.get fr):Ld g (looked all o F) fr.eval:=by
 intro x v e
 cases x with
 | tmp t=>
   simp only[looked] at e
   split at e
   · rename_i b
     obtain⟨y,hy,d⟩:=h t b v e
     simp_all[Frame.eval]
   · simp at e
 | const c=>simp only[looked,ae.eval,ba] at e;subst e;exact u4 g c
 | global _=>simp[looked,ae.eval] at e
 | func f=>simp only[looked,ae.eval,ba] at e;subst e;exact .fn rfl rfl (fun k a x e=>by simp at e) (fun k a x e=>by simp at e)
variable {E : ag}
theorem vN : gJ P (looked all o F) E o.op=gJ P F.eval E o.op:=by
 refine RX fun x hx=>?_
 cases x with
 | tmp t=>
   have:t∈o.looksAt all:=by
    unfold Oper.looksAt
    rw[dG]
    exact .inl (List.mem_filterMap.2 ⟨.tmp t,hx,rfl⟩)
   simp only[looked,this,if_true,ae.eval]
 | _=>rfl
theorem mX (h:Zz g all o F.get fr){b:Bool}(ha:tx F all o=some b):Region.wanted o (yielded all fr.tmps)=b:=by
 unfold tx at ha
 split at ha
 · simp_all[Region.wanted]
 · rename_i j m e
   split at ha<;>try (simp at ha;done)
   rename_i n k
   split at ha<;>try (simp at ha;done)
   rename_i d l
   have a:d∈o.looksAt all:=by
     simp_all[Oper.looksAt]
   split at ha<;>simp only[ba,reduceCtorEq] at ha
   · rename_i c f
     subst ha
     obtain⟨x,hx,i⟩:=h d a _ f
     cases i
     simp[Region.wanted,e,yielded,k,l,hx]
   · rename_i f
     subst ha
     obtain⟨x,hx,i⟩:=h d a _ f
     cases i
     simp[Region.wanted,e,yielded,k,l,hx]
theorem n7.FK (b:tx F all o=some false):n7 P all o F.get E (.bO []) E:=by
 intro g w fr cs i rest m c d f hs hi
 exact⟨w,g,undef,.one (zh c d f (mX hs b)),.bO rfl (fun k a x e=>by simp at e),hi,Ext.refl _ _ _⟩
variable {E' : ag} {v : AV}
theorem n7.val (b:tx F all o=some true)(a:ct o.op=false)(ha:gJ P F.eval E o.op=some (.val v E')):n7 P all o F.get E v E' := by
 intro g w fr cs i rest m c d e hs hi
 rw[←vN (all:=all)] at ha
 obtain⟨x,w', g', f,h,j,k⟩:=kd hi (AT hs) ha
 exact⟨w', g', x,.one (AQ (gQ c d e (mX hs b) (.inr a)) f),h,j,k⟩
theorem n7.skip (c:tx F all o=some true)(b:ct o.op=false)(ha:gJ P F.eval E o.op=some (.skip E')):n7 P all o F.get E (.bO []) E' := by
 intro g w fr cs i rest m d f h hs hi
 rw[←vN (all:=all)] at ha
 obtain⟨w', g', j,l,n⟩:=kd hi (AT hs) ha
 exact⟨w', g', undef,.one (Dn (gQ d f h (mX hs c) (.inr b)) j),.bO rfl (fun k a x e=>by simp at e),l,n⟩
variable {args : List AV}
theorem n7.call {f:FuncId}(q:tx F all o=some true)(j:ct o.op=false)(ha:gJ P F.eval E o.op=some (.call f args))(s:fY P f args E fun r n=>r=.ret v∧n=E'):n7 P all o F.get E v E' := by
 intro g w fr cs i rest m t p u hs hi
 rw[←vN (all:=all)] at ha
 obtain⟨xs,y,z⟩:=kd hi (AT hs) ha
 have b:=F6 (P:=P) (cs:=cs) (gQ t p u (mX hs q) (.inr j)) p y
 obtain⟨e,w', B,⟨r,n,g', ⟨A,k⟩,a,l,hx⟩,d,_,h⟩:=s g w xs z hi (fr::cs)
 subst A;subst k
 cases e with
 | returned x=>exact⟨w', g', x,Steps.head b (Steps.trans d (.one (step_leave_returned h))),a,l,hx⟩
 | panicked c=>exact a.elim
 | outgrown=>exact a.elim
theorem n7.mono {get a:Nat→Option AV}(b:∀ t u,get t=some u→a t=some u)(h:n7 P all o get E v E'):n7 P all o a E v E' :=
 fun g w fr cs i rest m c d f hs hi=>h g w fr cs i rest m c d f (fun t j u e=>hs t j u (b t u e)) hi
theorem n7.sj {id:Nat}{st:LoopState}{pend:Option Code}{fn n mask:Nat}{env:List (Nat×AV)}{params:List Tmp}{assign body:Code}(hg:tx F all o=some true)(hsp:ct o.op=false)(ha:gJ P F.eval E o.op=some (.sj id args))(hlp:E.get id=some (.lp st pend fn n mask env params assign body))(J:args.length=params.length)(h:Reach P (ux id fn n mask env params assign body args) E fun F' U=>Ll id F' U fun r S'' => r=.ret v∧S'' = E'):n7 P all o F.get E v E' := by
 intro g w fr cs i rest m hrun e1 ho X hi
 rw[←vN (all:=all)] at ha
 obtain⟨l,xs,V,r1,r2⟩:=kd hi (AT X) ha
 obtain⟨l', a1,a2,a3⟩:=hi.ob _ _ hlp
 rw[V] at a1;simp only[ba] at a1;subst a1
 obtain⟨lo,b1,b2,b3,b4,b5,b6,b7,b8,b9⟩:=a3
 have hsz:xs.size=lo.params.size:=by rw[b7,←r2.1,J];simp
 have hy:(Instr.yield l.cU xs).run P w=.ok (.round l.cU lo.fn ((lo.params.zip xs).foldl (fun tmps (x:Tmp×Value)=>tmps.setIfInBounds x.1 x.2) lo.tmps) lo.assign lo.body) w:=by
   simp[Instr.yield,Instr.getLoop,Sem.run_bind,getObj,Sem.run,b1,hsz]
 rw[hy] at r1
 obtain⟨DL,K⟩:∃ x:Frame,x=Frame.round l.cU lo.fn ((lo.params.zip xs).foldl (fun tmps (x:Tmp×Value)=>tmps.setIfInBounds x.1 x.2) lo.tmps) lo.assign lo.body .normal:=⟨_,rfl⟩
 have hs:=gQ (P:=P) (cs:=cs) (w:=w) hrun e1 ho (mX X hg) (.inr hsp)
 have Y:step P (lone fr cs w)=.next (lone DL (fr::cs) w):=by
   refine step_lone_go ?_
   rw[hs,K]
   simp[stepG.apply,r1]
 have R:(lo.params.zip xs).foldl (fun tmps (x:Tmp×Value)=>tmps.setIfInBounds x.1 x.2) lo.tmps=(params.zip xs.toList).foldl (fun tmps (x:Tmp×Value)=>tmps.setIfInBounds x.1 x.2) lo.tmps:=by
   rw[←Array.foldl_toList,Array.toList_zip,b7]
 have hFR:m8 P g (ux id fn n mask env params assign body args) DL:=by
   rw[K,R]
   refine⟨b4,?_,?_,.cons (by rw[b8];exact .code) (.cons .N0 (.cons (by rw[b9];exact .code) .nil)),.nil,.run,rfl,⟨l,V,rfl⟩⟩
   · show((params.zip xs.toList).foldl _ lo.tmps).size=n
     rw[F7];exact b5
   · intro t v e
     simp only[ae.get,ux] at e
     split at e
     · rename_i hmt
       exact F8 b5 J (by simpa using r2) (fun t v _ e=>b6 t v e) t v hmt e
     · simp[q7] at e
 obtain⟨F', U,g', w', f,cs', ⟨hd,I⟩,T,p2,p3,p4,p5,p6,W,p8⟩:=h g w DL (fr::cs) (fr::cs) hFR (by simp[wZ,ux]) hi
 have hk:F'.kind=.normal:=p3
 have hcs' : cs' = fr::cs:=by unfold wZ at p2;rw[hk] at p2;exact p2
 subst hcs'
 have hfn' : f.fn=fn:=T.fn.trans p4
 have hdf:f.defers=[]:=by have:=T.defers;rw[hd] at this;exact this.JA
 have O:f.kind=.normal:=T.kind.trans hk
 have k:f.roundOf=some l.cU:=by
   have z:=T.round
   rw[p5] at z
   have hl' := W.pc.ph _ _ V
   cases e:f.roundOf with
   | none=>rw[e] at z;exact z.elim
   | some b=>rw[e] at z;obtain⟨l2,c1,c2⟩:=z;rw[hl'] at c1;simp only[ba] at c1;subst c1;rw[c2]
 rcases I with⟨hmr,st2,pend2,Z,n2,G,L,params2,s,H,M,S,I⟩ | ⟨lch,hmp,I⟩
 · have u:=T.runs hmr
   obtain⟨l2,c1,c2,c3⟩:=p6.ob _ _ M
   rw[W.pc.ph _ _ V] at c1;simp only[ba] at c1;subst c1
   obtain⟨A,d1,d2,d3,d4,d5,d6,d7,d8,d9⟩:=c3
   have hlt:=(y8.1 d1).1
   have C:∀ a,(Instr.endRound l.cU a).run P w' = .ok (.bool a.isNone) { w' with heap:=w'.heap.setIfInBounds l.cU (.loop { A with state:=if a.isNone then .ready else .done,pending:=a }) }:=by
     intro a
     simp only[Instr.endRound,Instr.getLoop,Sem.run_bind,getObj,Sem.run,d1,Result.andThen_ok,Sem.run_pure]
     simp[setObj,Sem.run,d1]
   have N:∀(y:LoopState) (a:Option Code),Inv (U.set id (.lp y a Z n2 G L params2 s H)) g' { w' with heap:=w'.heap.setIfInBounds l.cU (.loop { A with state:=y,pending:=a }) } ∧
       Ext U g' w' (U.set id (.lp y a Z n2 G L params2 s H)) g' { w' with heap:=w'.heap.setIfInBounds l.cU (.loop { A with state:=y,pending:=a }) }:=by
     intro y a
     exact p6.jz (ob' := .loop { A with state:=y,pending:=a }) M S (W.pc.ph _ _ V) (by simp)
       (by show(w'.heap.setIfInBounds l.cU _)[l.cU]? = _;simp[hlt]) (by intro j hj;show(w'.heap.setIfInBounds l.cU _)[j]? = _;rw[ny,if_neg (Ne.symm hj)]) rfl ⟨rfl,bJ _⟩ rfl
       ⟨_,rfl,rfl,rfl,d4,d5,d6,d7,d8,d9⟩
   have p:=T.todo
   rcases I with⟨htn,I⟩ | ⟨c,d,I⟩
   · rw[htn] at p
     generalize q:f.todo=td at p
     cases p
     obtain⟨u1,u2⟩:=N .ready none
     obtain⟨B,Q⟩:=I
     simp only[gL.ret.injEq] at B
     subst B;subst Q
     refine⟨_,g', .bool true,Steps.head Y (Steps.trans p8 (.one (step_lone_go ?_))),.sc rfl,u1,W.trans u2⟩
     simp[stepG,stepG.exec,u,q,k,Sem.runT_eq,C,doReturn,O]
   · obtain⟨u1,u2⟩:=N .done (some c)
     have hgo:step P (lone f (fr::cs) w')=.next (lone (fr.finish (.bool false)) cs { w' with heap:=w'.heap.setIfInBounds l.cU (.loop { A with state:=.done,pending:=some c }) }):=by
       refine step_lone_go ?_
       generalize htodo:F'.todo=T' at p d
       unfold C4 at d
       split at d
       · simp only[ba] at d;subst d
         generalize q:f.todo=td at p
         cases p with | cons y1 y2=>?_
         cases y1
         simp[stepG,stepG.exec,u,q,k,Sem.runT_eq,C,doReturn,O]
       · split at d<;>simp only[ba,reduceCtorEq] at d
         rename_i xid bb hexq hex
         subst d
         generalize q:f.todo=td at p
         cases p with | cons y1 y2=>?_
         cases y1
         have D:=xF (id:=xid) y2
         rw[hex] at D
         simp only at D
         simp[stepG,stepG.exec,u,q,D,k,Sem.runT_eq,C,doReturn,O]
       · simp at d
     obtain⟨B,Q⟩:=I
     simp only[gL.ret.injEq] at B
     subst B;subst Q
     exact⟨_,g', .bool false,Steps.head Y (Steps.trans p8 (.one hgo)),.sc rfl,u1,W.trans u2⟩
 · simp at I
end
noncomputable section
theorem yc (j:Nat):∀ m,tb m j=m.testBit j:=by
 intro m
 unfold tb
 rw[Nat.testBit]
 have a:Nat.land (Nat.shiftRight m j) 1=(m >>> j) &&& 1:=rfl
 rw[a]
 have:=Nat.and_one_is_mod (m >>> j)
 rw[this,Nat.and_comm,this]
 rcases Nat.mod_two_eq_zero_or_one (m >>> j) with e | e<;>rw[e]<;>rfl
theorem ajz (a b j:Nat):tb (Nat.lor a b) j=(tb a j||tb b j):=by
 simp_all[yc]
theorem aek (k j:Nat):tb (Nat.shiftLeft 1 k) j=true↔k=j:=by
 simp_all[yc,Nat.one_shiftLeft,Nat.testBit_two_pow]
theorem Qy (j:Nat):tb 0 j=false:=by rw[yc];simp_all
theorem MH {dt:List (Nat×Nat)}{j:Nat}:∀ {l:List Edge},tb (ay dt l) j=true↔∃ e,e∈l∧Region.binds .any e=true∧(e.on=j∨tb (Ha dt e.on) j=true):=by
 intro l
 induction l with
 | nil=>simp[ay,Qy]
 | cons e r a=>
   simp only[ay]
   cases hb:Region.binds .any e with
   | true=>
     simp only[ajz,xl,aek,a,cF,exists_eq_or_imp,hb,true_and]
   | false=>
     simp_all
theorem RY : ∀(os:List Oper) (i:Nat) (dt:List (Nat×Nat)) (k:Nat),k<i→Ha (gg os i dt) k=Ha dt k:=by
 intro os
 induction os with
 | nil=>intro i dt k _;rfl
 | cons o os a=>
   intro i dt k b
   simp only[gg]
   rw[a (i+1) _ k (by omega)]
   simp only[Ha]
   rw[show Nat.beq i k=false from by rw[sw];exact fun e=>by simp_all]
theorem qw : ∀(os:List Oper) (i:Nat) (dt:List (Nat×Nat)) (k:Nat) (o:Oper),os[k]? = some o→Ha (gg os i dt) (i+k)=ay (gg (os.take k) i dt) o.after.toList:=by
 intro os
 induction os with
 | nil=>simp_all
 | cons o' os a=>
   intro i dt k o h
   cases k with
   | zero=>
     simp_all[gg,RY,Ha]
   | succ k=>
     have:=a (i+1) ((i,ay dt o'.after.toList)::dt) k o (by simpa using h)
     simp only[gg,List.take_succ_cons]
     rw[show i+(k+1)=i+1+k from by omega]
     exact this
theorem HF : ∀(os:List Oper) (i:Nat) (dt:List (Nat×Nat)) (k:Nat),i+os.length≤k→Ha (gg os i dt) k=Ha dt k:=by
 intro os
 induction os with
 | nil=>intro i dt k _;rfl
 | cons o os a=>
   intro i dt k b
   simp only[lI] at b
   simp only[gg]
   rw[a (i+1) _ k (by omega)]
   simp only[Ha]
   rw[show Nat.beq i k=false from by rw[sw];exact fun e=>by have:=np e;omega]
variable {i : Nat}
theorem O6 (os:List Oper){k:Nat}(b:k<i):Ha (gg (os.take i) 0 []) k=Ha (gg os 0 []) k:=by
 cases a:os[k]? with
 | none=>
   have:=List.getElem?_eq_none_iff.1 a
   rw[Jz (by omega)]
 | some o=>
   have h1:=qw os 0 [] k o a
   have h2:=qw (os.take i) 0 [] k o (by simp_all)
   rw[List.take_take,Nat.min_eq_left (by omega),←h1] at h2
   simpa using h2
def zq (ops:Array Oper)(i j:Nat):Bool:=tb (Ha (gg ops.toList 0 []) i) j
theorem MI : ∀ {l:List Edge},yb i l=true→∀ e,e∈l→Region.binds .any e=true→e.on<i:=by
 intro l
 induction l with
 | nil=>simp_all
 | cons a r d=>
   intro h e he hb
   simp only[yb] at h
   cases b:Region.binds .any a with
   | true=>
     rw[b] at h
     cases c:Nat.ble (a.on+1) i with
     | true=>
       rw[c] at h
       rcases cF.1 he with rfl | he
       · exact gb c
       · exact d h e he hb
     | false=>rw[c] at h;simp at h
   | false=>
     rw[b] at h
     rcases cF.1 he with rfl | he
     all_goals simp_all
variable {ops : Array Oper} {o : Oper}
theorem O7 {m:Nat}:∀ {l:List (Nat×Oper)},Ca ops o m l=true→∀ j p,(j,p)∈l→tb m j=false→o.apart ops p=true:=by
 intro l
 induction l with
 | nil=>intro _ j p h;simp at h
 | cons a r b=>
   obtain⟨k,q⟩:=a
   intro h j p hm c
   simp only[Ca] at h
   have ha:tb m k=false→o.apart ops q=true:=by
    intro e
    rw[e] at h
    cases f:o.apart ops q<;>simp_all
   have d:Ca ops o m r=true:=by
    cases e:tb m k<;>simp_all
   rcases cF.1 hm with e | hm
   · simp_all
   · exact b d j p hm c
theorem IH : ∀(os:List Oper) (i:Nat) (dt:List (Nat×Nat)) (done:List (Nat×Oper)),Qi ops os i dt done=true→∀ k o,os[k]? = some o →
   yb (i+k) o.after.toList=true∧(∀ j p,(j,p)∈done→tb (Ha (gg os i dt) (i+k)) j=false→o.apart ops p=true) ∧
     ∀ b,b<k→∀ p,os[b]? = some p→tb (Ha (gg os i dt) (i+k)) (i+b)=false→o.apart ops p=true:=by
 intro os
 induction os with
 | nil=>simp_all
 | cons a os l=>
   intro i dt done h k o e
   simp only[Qi] at h
   split at h<;>try (simp at h;done)
   rename_i h1
   split at h<;>try (simp at h;done)
   rename_i h2
   cases k with
   | zero=>
     simp at e;subst e
     have n:Ha (gg (a::os) i dt) (i+0)=ay dt a.after.toList:=qw (a::os) i dt 0 a rfl
     refine⟨h1,fun j p c d=>O7 h2 j p c (by simp_all),fun b f=>by omega⟩
   | succ k=>
     obtain⟨g,q2,q3⟩:=l (i+1) _ _ h k o (by simpa using e)
     have m:i+1+k=i+(k+1):=by omega
     rw[m] at g q2 q3
     refine⟨g,fun j p c d=>q2 j p (Ez _ c) d,fun b f p c d=>?_⟩
     cases b with
     | zero=>simp at c;subst c;exact q2 i _ (jq ..) d
     | succ b=>exact q3 b (by omega) p (by simpa using c) (by rw[show i+1+b=i+(b+1) from by omega];exact d)
theorem xG (h:C5 ops=true)(i j:Nat)(a b:Oper)(d:j<i)(e:zq ops i j=false)(f:ops[i]? = some a)(c:ops[j]? = some b):a.apart ops b=true:=by
 obtain⟨_,_,q⟩:=IH ops.toList 0 [] [] h i a (by simpa using f)
 exact q j d b (by simpa using c) (by simpa [zq] using e)
theorem u5 (a:ops[i]? = some o):Ha (gg ops.toList 0 []) i=ay (gg (ops.toList.take i) 0 []) o.after.toList:=by
 have:=qw ops.toList 0 [] i o (by simpa using a)
 simpa using this
theorem qR (h:C5 ops=true):Ar ops (zq ops):=by
 have low:∀ i o e,ops[i]? = some o→e∈o.after→Region.binds .any e=true→e.on<i:=by
   intro i o e c k hb
   obtain⟨q,_,_⟩:=IH ops.toList 0 [] [] h i o (by simpa using c)
   have:=MI q e (by simpa using k) hb
   omega
 refine⟨low,fun i j a=>?_⟩
 cases c:ops[i]? with
 | none=>
   have l:ops.toList.length≤i:=by simp_all
   unfold zq at a
   rw[HF _ _ _ _ (by omega)] at a
   rw[show Ha [] i=0 from rfl,Qy] at a
   simp at a
 | some o=>
   unfold zq at a
   rw[u5 c] at a
   obtain⟨e,f,g,b⟩:=MH.1 a
   refine⟨o,e,rfl,by simpa using f,g,?_⟩
   rcases b with b | b
   · exact .inl b
   · refine .inr ?_
     have d:=low i o e c (by simpa using f) g
     rw[O6 _ d] at b
     exact b
end
noncomputable section
variable {S : ag} {E1 E2 : Nat → ag}
theorem Vn : ∀ {m:Nat},(∀ j,j<m→E1 j=E2 j)→nn S E1 m=nn S E2 m:=by
 intro m h
 cases m<;>simp_all[nn]
variable {F : ae} {X : Nat → Bool} {t : Nat}
theorem Vo {ops:Array Oper}{a b:Nat→AV}:∀ {m:Nat},(∀ j,j<m→E1 j=E2 j)→(∀ j,j<m→a j=b j) →
   sv ops F S E1 a X m t=sv ops F S E2 b X m t:=by
 intro m
 induction m with
 | zero=>intro _ _;rfl
 | succ m d=>
   intro h c
   simp only[sv,d (fun j e=>h j (by omega)) (fun j e=>c j (by omega)),c m (by omega),nn,h m (by omega)]
variable {id : Nat}
theorem Vp {c1 c2:Nat→Nat→Option (Option aO)}:∀ {m:Nat},(∀ j,j<m→E1 j=E2 j)→(∀ j,j<m→c1 j=c2 j) →
   ov S E1 c1 X m id=ov S E2 c2 X m id:=by
 intro m
 induction m with
 | zero=>intro _ _;rfl
 | succ m b=>
   intro h a
   simp only[ov,b (fun j c=>h j (by omega)) (fun j c=>a j (by omega)),a m (by omega),nn,h m (by omega)]
variable {α : Type}
def jz (f:Nat→α)(i:Nat)(x:α):Nat→α:=fun j=>if j=i then x else f j
theorem eA (f:Nat→α)(i:Nat)(x:α):jz f i x i=x:=by simp[jz]
theorem fJ (f:Nat→α){i j:Nat}(x:α)(h:j<i):jz f i x j=f j:=by simp[jz,show j≠i by omega]
structure DI (P : Program) (F0 : ae) (S0 : ag) (D : rX) (E E' : Nat → ag) (v : Nat → AV) (ch : Nat → Nat → Option (Option aO)) : Prop where
 hi : D.i ≤ D.ops.size
 os : D.os = D.ops.toList.drop D.i
 dt : D.dt = gg (D.ops.toList.take D.i) 0 []
 ok : C5 D.ops = true
 BS : lo F0 ≤ D.i
 dn : Lo D.ops F0 S0 E' v ch (lo F0)
 dp : DP D.ops F0 S0 (zq D.ops) E E' v ch P (Eng.lo F0) D.i
 wu : ∀ t u, D.F.get t = some u → ∃ st, sv D.ops F0 S0 E' v (fun _ => true) D.i t = some (u, st)
 nx : D.S.nx = nn S0 E' D.i
 lim : D.S.lim = S0.lim
 agr : S0.lim ≤ S0.nx
 get : ∀ id, D.S.get id = match ov S0 E' ch (fun _ => true) D.i id with
  | some (o, _) => some o
  | none => none
 kx : ∀ j, j < D.i → ∀ id, ch j id ≠ none → ∃ c, (j, c) ∈ D.kx ∧ c.has id = true
 es : ∀ j, j < D.i → ∀ id, (E j).get id ≠ none → (j, E j) ∈ D.es
 small : ∀ j c, (j, Le.WO c) ∈ D.kx → ∀ id, qW c id = true → Ok id
 mode : F0.mode = .run
 todo : Tn D.ops F0 D.F.todo
 jr : D.F.n = F0.n ∧ D.F.defers = F0.defers ∧ D.F.mode = F0.mode ∧ D.F.kind = F0.kind ∧ D.F.fn = F0.fn ∧ D.F.round = F0.round ∧ D.F.cm = F0.cm
theorem ae.Qz {d:Nat}{v u:AV}(h:(F.set d v).get t=some u):(t=d∧t<F.n∧u=v)∨(¬ (t=d∧t<F.n)∧F.get t=some u):=by
 unfold ae.set at h
 cases hb:Nat.ble (d+1) F.n with
 | false=>
   rw[hb] at h
   refine .inr ⟨?_,h⟩
   rintro⟨rfl,a⟩
   rw[EY (show t+1≤F.n from a)] at hb;simp at hb
 | true=>
   have a:d<F.n:=gb hb
   rw[hb] at h
   simp only at h
   by_cases e:t=d
   · subst e
     refine .inl ⟨rfl,a,?_⟩
     cases c:tb F.mask t<;>simp_all[tb,Am.mask,ae.mask,true,ae.get,vM,ba,false,iz,vD]
   · refine .inr ⟨fun q=>e q.1,?_⟩
     cases c:tb F.mask d with
     | true=>
       simp_all[ae.get,Am.mask,ae.mask,true,tO,false]
     | false=>
       rw[c] at h
       simp only[ae.get] at h ⊢
       cases b:tb F.mask t with
       | true=>rw[b] at h;exact h
       | false=>
         rw[b] at h
         simp only[iz] at h
         rw[show Nat.beq d t=false from by rw[sw];exact fun q=>e (np q).symm] at h
         exact h
theorem ae.Vq (F:ae)(t:Nat)(v:AV):(F.set t v).n=F.n∧(F.set t v).defers=F.defers∧(F.set t v).mode=F.mode∧(F.set t v).kind=F.kind∧(F.set t v).fn=F.fn∧(F.set t v).round=F.round∧(F.set t v).cm=F.cm∧(F.set t v).todo=F.todo:=by
 unfold ae.set
 split
 · split<;>exact⟨rfl,rfl,rfl,rfl,rfl,rfl,rfl,rfl⟩
 all_goals simp_all
theorem ae.LW (F:ae)(d:Option Tmp)(v:AV):(F.put d v).n=F.n∧(F.put d v).defers=F.defers∧(F.put d v).mode=F.mode∧(F.put d v).kind=F.kind∧(F.put d v).fn=F.fn∧(F.put d v).round=F.round∧(F.put d v).cm=F.cm∧(F.put d v).todo=F.todo:=by
 cases d with
 | none=>exact⟨rfl,rfl,rfl,rfl,rfl,rfl,rfl,rfl⟩
 | some t=>exact F.Vq t v
variable {P : Program} {F0 : ae} {S0 : ag} {D : rX} {E E' : Nat → ag} {v : Nat → AV} {ch : Nat → Nat → Option (Option aO)} {o : Oper} {os : List Oper}
theorem DI.here (h:DI P F0 S0 D E E' v ch)(a:D.os=o::os) :
   D.ops[D.i]? = some o∧os=D.ops.toList.drop (D.i+1)∧D.i<D.ops.size∧D.ops.toList.take (D.i+1)=D.ops.toList.take D.i++[o]:=by
 have h1:=h.os
 rw[a] at h1
 have h2:D.ops.toList[D.i]? = some o:=by
   have:(D.ops.toList.drop D.i)[0]? = some o:=by rw[←h1];rfl
   simp_all
 refine⟨by simpa using h2,?_,?_,?_⟩
 · have:(D.ops.toList.drop D.i).tail=os:=by rw[←h1];rfl
   simp_all
 · have:=(lr.1 h2).1
   simpa using this
 · rw[List.take_add_one,h2];rfl
theorem Bf (o:Oper):∀(os:List Oper) (i:Nat) (dt:List (Nat×Nat)),gg (os++[o]) i dt=(i+os.length,ay (gg os i dt) o.after.toList)::gg os i dt:=by
 intro os
 induction os with
 | nil=>intro i dt;rfl
 | cons a os b=>
   intro i dt
   simp only[zD,gg,b,lI]
   rw[show i+1+os.length=i+(os.length+1) from by omega]
theorem DI.wf (h:DI P F0 S0 D E E' v ch)(b:∀ id o,S0.get id=some o→id<S0.nx){o:aO}(e:D.S.get id=some o):id<D.S.nx:=by
 rw[h.get] at e
 split at e<;>simp only[ba,reduceCtorEq] at e
 rename_i o' st a
 rw[h.nx]
 exact mJ (Zq h.dp b (bJ _) a) (LS h.dp (bJ _) a)
variable {En En' : ag} {vn : AV}
theorem DI.step (h:DI P F0 S0 D E E' v ch)(ho:D.os=o::os){chn:Nat→Option (Option aO)}{L:Nat}(N:L=ay D.dt o.after.toList)(hop:n7 P D.ops o D.F.get En vn En')(O:En.nx=D.S.nx)(K:En.nx≤En'.nx)(R:D.S.lim≤En.lim)(z:∀ id ob,En.get id=some ob→D.S.get id=some ob∧∀ j,j<D.i→tb L j=false→ch j id=none)(hR:∀ j,j<D.i→tb L j=false→∀ id,chn id≠none→id<D.S.nx→(E j).get id=none)(T:∀ id ob,chn id=some (some ob)→En'.get id=some ob)(U:∀ id ob,En.get id=some ob→En.lim≤id→chn id≠none)(V:∀ id,chn id≠none→En.lim≤id∧id<En'.nx)(W:∀ id,chn id≠none→En.get id≠none∨En.nx≤id){k:rX}(d1:k.F=Rn D.F o.dst vn)(y:k.ops=D.ops)(d3:k.os=os)(n:k.i=D.i+1)(d5:k.dt=(D.i,L)::D.dt)(s1:k.S.nx=En'.nx)(s2:k.S.lim=D.S.lim)(s3:∀ id,k.S.get id=match chn id with
     | some r=>r
     | none=>D.S.get id)(c1:∀ id,chn id≠none→∃ c,(D.i,c)∈k.kx∧c.has id=true)(c2:∀ p,p∈D.kx→p∈k.kx)(c3:∀ j c,(j,Le.WO c)∈k.kx→∀ id,qW c id=true→Ok id)(e1:∀ id,En.get id≠none→(D.i,En)∈k.es)(e2:∀ p,p∈D.es→p∈k.es) :
   DI P F0 S0 k (jz E D.i En) (jz E' D.i En') (jz v D.i vn) (jz ch D.i chn):=by
 obtain⟨h1,h2,h3,h4⟩:=h.here ho
 have B:∀ j,zq D.ops D.i j=tb L j:=by
   intro j
   unfold zq
   rw[u5 h1,N,h.dt]
 have C:∀ {m},m≤D.i→∀ j,j<m→jz E' D.i En' j=E' j:=fun s j f=>fJ _ _ (by omega)
 have av:∀ {m},m≤D.i→∀ j,j<m→jz v D.i vn j=v j:=fun s j f=>fJ _ _ (by omega)
 have ac:∀ {m},m≤D.i→∀ j,j<m→jz ch D.i chn j=ch j:=fun s j f=>fJ _ _ (by omega)
 have Q:∀ {m},m≤D.i→nn S0 (jz E' D.i En') m=nn S0 E' m:=fun s=>Vn (C s)
 have H:∀ {m X t},m≤D.i→sv D.ops F0 S0 (jz E' D.i En') (jz v D.i vn) X m t=sv D.ops F0 S0 E' v X m t:=fun s=>Vo (C s) (av s)
 have I:∀ {m X id},m≤D.i→ov S0 (jz E' D.i En') (jz ch D.i chn) X m id=ov S0 E' ch X m id:=fun s=>Vp (C s) (ac s)
 have cs:∀ {i},i<D.i+1→i<D.i∨i=D.i:=fun hi=>by omega
 have Z:=D.F.LW o.dst vn
 rw[←EH,←d1] at Z
 have dp:DP D.ops F0 S0 (zq D.ops) (jz E D.i En) (jz E' D.i En') (jz v D.i vn) (jz ch D.i chn) P (lo F0) (D.i+1):=by
   refine⟨?_,?_,?_,?_,?_,?_,?_,?_,?_,?_,?_⟩
   · intro i hi
     rcases cs hi with q | rfl
     · rw[fJ _ _ q,Q (by omega)];exact h.dp.ae9 i q
     · rw[eA,Q (bJ _),O,h.nx]
   · intro i hi
     rcases cs hi with q | rfl
     · rw[fJ _ _ q,fJ _ _ q];exact h.dp.mono i q
     · rw[eA,eA];exact K
   · intro i hi
     rcases cs hi with q | rfl
     · rw[fJ _ _ q];exact h.dp.lim i q
     · rw[eA,←h.lim];exact R
   · intro i hi id ob e
     rcases cs hi with q | rfl
     · rw[fJ _ _ q] at e
       obtain⟨st,M⟩:=h.dp.aky i q id ob e
       exact⟨st,by rw[I (by omega)];exact M⟩
     · rw[eA] at e
       obtain⟨a,b⟩:=z id ob e
       rw[h.get] at a
       split at a<;>simp only[ba,reduceCtorEq] at a
       rename_i o' st M
       subst a
       refine⟨st,?_⟩
       rw[I (bJ _),←M]
       refine AR fun j f l=>?_
       cases A:zq D.ops D.i j with
       | true=>rfl
       | false=>exact absurd (b j f (by rw[←B];exact A)) l
   · intro i hi j f A id l
     rcases cs hi with q | rfl
     · rw[fJ _ _ (show j<D.i by omega)] at l
       rw[fJ _ _ q];exact h.dp.Om i q j f A id l
     · rw[fJ _ _ f] at l
       rw[eA]
       cases e:En.get id with
       | none=>rfl
       | some ob=>exact absurd ((z id ob e).2 j f (by rw[←B];exact A)) l
   · intro i hi j f J A id l x
     rcases cs f with q | rfl
     · rw[fJ _ _ q] at l x
       rw[fJ _ _ (show i<D.i by omega)]
       exact h.dp.Uw i (by omega) j q J A id l x
     · rw[eA] at l x
       rw[fJ _ _ J]
       exact hR i J (by rw[←B];exact A) id l (by rw[←O];exact x)
   · intro i hi id ob e
     rcases cs hi with q | rfl
     · rw[fJ _ _ q] at e;rw[fJ _ _ q];exact h.dp.asL i q id ob e
     · rw[eA] at e;rw[eA];exact T id ob e
   · intro i hi id ob e Y
     rcases cs hi with q | rfl
     · rw[fJ _ _ q] at e Y;rw[fJ _ _ q];exact h.dp.asM i q id ob e Y
     · rw[eA] at e Y;rw[eA];exact U id ob e Y
   · intro i hi id e
     rcases cs hi with q | rfl
     · rw[fJ _ _ q] at e;rw[fJ _ _ q,fJ _ _ q];exact h.dp.afw i q id e
     · rw[eA] at e;rw[eA,eA];exact V id e
   · intro i hi id e
     rcases cs hi with q | rfl
     · rw[fJ _ _ q] at e;rw[fJ _ _ q];exact h.dp.akz i q id e
     · rw[eA] at e;rw[eA];exact W id e
   · intro i h0 hi
     rcases cs hi with q | rfl
     · obtain⟨oi,a,b⟩:=h.dp.op i h0 q
       refine⟨oi,a,?_⟩
       rw[fJ _ _ q,fJ _ _ q,fJ _ _ q]
       simp only[H (show i≤D.i by omega)]
       exact b
     · refine⟨o,h1,?_⟩
       rw[eA,eA,eA]
       refine hop.mono fun t u e=>?_
       obtain⟨st,M⟩:=h.wu t u e
       rw[H (bJ _),M]
 have hlD:=h.BS
 refine⟨?_,?_,?_,?_,by rw[n];omega,⟨fun j f=>?_,fun j f id=>?_,fun j f t e=>?_⟩,?_,?_,?_,?_,h.agr,?_,?_,?_,c3,h.mode,?_,?_⟩
 · rw[n,y];omega
 · rw[d3,y,n];exact h2
 · rw[d5,y,n,h4,Bf,←h.dt,N]
   congr 2
   have:(D.ops.toList.take D.i).length=D.i:=by rw[List.length_take];simp;omega
   omega
 · rw[y];exact h.ok
 · rw[fJ _ _ (by omega)];exact h.dn.nx j f
 · rw[fJ _ _ (by omega)];exact h.dn.ch j f id
 · rw[y] at e;rw[fJ _ _ (by omega)];exact h.dn.v j f t e
 · rw[y,n];exact dp
 · intro t u e
   rw[y,n]
   simp only[sv,eA,true_and]
   have hdo:tF D.ops D.i=o.dst:=by simp[tF,h1]
   rw[hdo,H (bJ _)]
   rw[d1,EH] at e
   cases hd:o.dst with
   | none=>
     rw[hd] at e
     rw[if_neg (by simp)]
     exact h.wu t u e
   | some d=>
     rw[hd] at e
     rcases ae.Qz e with⟨q1,q2,q3⟩ | ⟨q1,q2⟩
     · subst q1;subst q3
       rw[if_pos ⟨rfl,by rw[←h.jr.1];exact q2⟩]
       exact⟨_,rfl⟩
     · rw[if_neg]
       · exact h.wu t u q2
       · rintro⟨a,b⟩
         simp only[ba] at a
         exact q1 ⟨a.symm,by rw[h.jr.1];exact b⟩
 · rw[s1,n];simp only[nn,eA]
 · rw[s2];exact h.lim
 · intro id
   rw[s3,n]
   simp only[ov,eA,if_true,I (bJ _)]
   cases l:chn id with
   | none=>exact h.get id
   | some r=>cases r<;>rfl
 · intro j f id e
   rw[n] at f
   rcases cs f with q | rfl
   · rw[fJ _ _ q] at e
     obtain⟨c,a,b⟩:=h.kx j q id e
     exact⟨c,c2 _ a,b⟩
   · rw[eA] at e;exact c1 id e
 · intro j f id e
   rw[n] at f
   rcases cs f with q | rfl
   · rw[fJ _ _ q] at e ⊢;exact e2 _ (h.es j q id e)
   · rw[eA] at e ⊢;exact e1 id e
 · rw[Z.2.2.2.2.2.2.2,y];exact h.todo
 · obtain⟨k1,k2,k3,k4,k5,k6,k7⟩:=h.jr
   obtain⟨a1,a2,a3,a4,a5,a6,a7,_⟩:=Z
   exact⟨a1.trans k1,a2.trans k2,a3.trans k3,a4.trans k4,a5.trans k5,a6.trans k6,a7.trans k7⟩
theorem Yl {c:Code}{k:List bg}(h:F.todo=.code c::k):lo F=0:=by unfold lo;rw[h]
theorem DI.start (b:C5 D.ops=true)(k:S0.lim≤S0.nx)(l:F0.mode=.run)(d:F0.todo=.code (.region id D.ops true)::D.F.todo)(f:D.F=Iq F0 D.F.todo)(a:D.S=S0)(m:D.os=D.ops.toList)(hi:D.i=0)(n:D.dt=[])(p:D.kx=[]) :
   DI P F0 S0 D (fun _=>S0) (fun _=>S0) (fun _=>.top) (fun _ _=>none):=by
 have r:=Yl d
 refine⟨by omega,by rw[hi];simpa using m,by rw[hi,n];rfl,b,by omega,⟨fun _ h=>by omega,fun _ h=>by omega,fun _ h=>by omega⟩,?_,?_,?_,by rw[a],k,?_,?_,?_,?_,l,.inl ⟨id,d⟩,?_⟩
 · rw[hi]
   exact⟨fun _ h=>by omega,fun _ h=>by omega,fun _ h=>by omega,fun _ h=>by omega,fun _ h=>by omega,fun _ h=>by omega,fun _ h=>by omega,fun _ h=>by omega,fun _ h=>by omega,fun _ h=>by omega,fun _ _ h=>by omega⟩
 · intro t u e
   rw[hi]
   have:F0.get t=some u:=by
    rw[f,LU] at e
    simp only[ae.get] at e ⊢
    cases hb:tb F0.mask t with
    | true=>rw[hb] at e;exact e
    | false=>rw[hb] at e;simp[q7] at e
   exact⟨_,by simp only[sv,this];rfl⟩
 · rw[hi,a];rfl
 · intro id;rw[hi,a];simp only[ov];cases S0.get id<;>rfl
 · intro j q;omega
 · intro j q;omega
 · intro j c h;rw[p] at h;simp at h
 · rw[f,LU];exact⟨rfl,rfl,rfl,rfl,rfl,rfl,rfl⟩
theorem II : ∀(a b:List Oper) (i:Nat) (dt:List (Nat×Nat)),gg (a++b) i dt=gg b (i+a.length) (gg a i dt):=by
 intro a
 induction a with
 | nil=>intro b i dt;rfl
 | cons o a c=>
   intro b i dt
   simp only[zD,gg,c,lI]
   rw[show i+1+a.length=i+(a.length+1) from by omega]
theorem RZ : ∀(os:List Oper) (i:Nat) (dt:List (Nat×Nat)),chain os i dt=true→∀(k:Nat) (o:Oper),os[k]? = some o→ay (gg (os.take k) i dt) o.after.toList+1=2 ^ (i+k):=by
 intro os
 induction os with
 | nil=>simp_all
 | cons a os b=>
   intro i dt h k o c
   simp only[chain] at h
   split at h
   · rename_i hb
     have hb:=np hb
     cases k with
     | zero=>
       simp_all[gg,Nat.one_shiftLeft]
     | succ k=>
       have:=b (i+1) _ h k o (by simpa using c)
       simp only[List.take_succ_cons,gg]
       rw[this,show i+1+k=i+(k+1) from by omega]
   · simp at h
variable {G : ae → ag → Prop}
theorem DI.jB (b:P.follows .mixedOrders=true)(h:DI P F0 S0 D E E' v ch)(n:chain D.os D.i D.dt=true)(p:Reach P (lS D.F (.ops D.ops (List.range' D.i (D.ops.size-D.i))::D.F.todo)) D.S G):Reach P F0 S0 G:=by
 obtain⟨k1,k2,k3,k4,k5,k6,k7⟩:=h.jr
 have a:∀ i,D.i≤i→i<D.ops.size→∀ j,j<i→zq D.ops i j=true:=by
  intro i hi f j d
  obtain⟨k,rfl⟩:∃ k,i=D.i+k:=⟨i-D.i,by omega⟩
  have c:D.ops[D.i+k]? = some D.ops[D.i+k]:=Ak f
  have q:D.os[k]? = some D.ops[D.i+k]:=by rw[h.os,su];simpa using c
  have:=RZ D.os D.i D.dt n k _ q
  have e:gg (D.os.take k) D.i D.dt=gg (D.ops.toList.take (D.i+k)) 0 []:=by
   rw[h.dt,h.os,List.take_add,II]
   simp only[List.length_take,xh,uu]
   rw[Nat.min_eq_left h.hi]
  unfold zq
  rw[u5 c,←e,show ay (gg (D.os.take k) D.i D.dt) D.ops[D.i+k].after.toList=2 ^ (D.i+k)-1 from by omega,yc,Nat.testBit_two_pow_sub_one]
  simpa using d
 exact Reach.drawn b h.mode h.todo h.dn h.BS h.dp h.hi (qR h.ok) (fun i h1 h2 j h3=>a i h1 h2 j (by omega)) (fun i j r s _ d x c l=>xG h.ok i j r s d x c l)
  (fun m t aE y q2 q3=>by
   rw[Vf (qR h.ok) h.hi a y q2 q3]
   exact xe.refl fun i hi=>by have:=h.hi;simp_all) (F' := lS D.F (.ops D.ops (List.range' D.i (D.ops.size-D.i))::D.F.todo)) ⟨by rw[fA];exact k1,by rw[fA],by rw[fA];exact k2,by rw[fA];exact k3⟩
  (by rw[fA];exact k4) (by rw[fA];exact k5) (by rw[fA];exact k6) (by rw[fA];exact k7)
  (fun t u e=>h.wu t u (by rw[fA] at e;exact e)) h.nx h.lim h.get p
def eS (S:ag):ag:=⟨S.nx,S.lim,.nil⟩
theorem Ow (S:ag)(id:Nat):(eS S).get id=none:=PT.get_nil _ _
theorem DI.again {a wm sm:Nat}(f:C5 D.ops=true)(r:S0.lim≤S0.nx)(s:F0.mode=.run)(l:F0.todo=.ops D.ops [D.ops.size,a,wm,sm]::D.F.todo)(n:D.F=lS F0 D.F.todo)(d:D.S=S0)(x:D.os=D.ops.toList.drop a)(hi:D.i=a)(B:a≤D.ops.size)(y:D.dt=gg (D.ops.toList.take a) 0 [])(z:D.kx=[]) :
   DI P F0 S0 D (fun _=>eS S0) (fun _=>eS S0) (fun j=>match tF D.ops j with
     | some t=>(F0.get t).getD .top
     | none=>.top) (fun _ _=>none):=by
 have C:Eng.lo F0=a:=by unfold Eng.lo;rw[l]
 have k:∀ {X m id},ov S0 (fun _=>eS S0) (fun _ _=>none) X m id=ov S0 (fun _=>eS S0) (fun _ _=>none) X 0 id:=fun {X m id}=>LD (i:=0) (bU _) (fun _ _ _ _=>rfl)
 have b:∀ m,nn S0 (fun _=>eS S0) m=S0.nx:=fun m=>by cases m<;>rfl
 refine⟨by omega,by rw[hi];exact x,by rw[hi];exact y,f,by omega,⟨fun _ _=>rfl,fun _ _ _=>rfl,fun j _ t e=>by rw[e]⟩,?_,?_,?_,by rw[d],r,?_,fun j _ id e=>absurd rfl e,fun j _ id e=>absurd (Ow _ _) e,?_,s,.inr ⟨a,wm,sm,l⟩,?_⟩
 · exact⟨fun i _=>(b i).symm,fun _ _=>bJ _,fun _ _=>bJ _,fun i _ id o e=>(by rw[Ow] at e;simp at e),fun _ _ _ _ _ _ e=>absurd rfl e,fun _ _ _ _ _ _ _ e=>absurd rfl e,fun _ _ _ _ e=>(by simp at e),fun i _ id o e=>(by rw[Ow] at e;simp at e),fun _ _ _ e=>absurd rfl e,fun _ _ _ e=>absurd rfl e,fun i h1 h2=>by omega⟩
 · intro t u e
   have p:F0.get t=some u:=by
     rw[n,fA] at e
     exact e
   refine⟨S0.nx,?_⟩
   generalize D.i=m
   induction m with
   | zero=>simp only[sv,p]
   | succ m A=>
     simp only[sv]
     split
     · rename_i q
       simp only[q.2.1,p];rfl
     · exact A
 · rw[d,b]
 · intro id;rw[k,d];simp only[ov];cases S0.get id<;>rfl
 · intro j c h;rw[z] at h;simp at h
 · rw[n,fA];exact⟨rfl,rfl,rfl,rfl,rfl,rfl,rfl⟩
theorem O8 : ∀(os:List Oper) (b i:Nat) (dt:List (Nat×Nat)),behind os b i dt=true→∀(k:Nat) (o:Oper),os[k]? = some o→Nat.land (ay (gg (os.take k) i dt) o.after.toList) b=b:=by
 intro os
 induction os with
 | nil=>simp_all
 | cons a os c=>
   intro b i dt h k o d
   simp only[behind] at h
   split at h
   · rename_i hb
     have hb:=np hb
     cases k<;>simp_all[List.take_zero,gg]
   · simp at h
theorem DI.cut (n:P.follows .mixedOrders=true)(h:DI P F0 S0 D E E' v ch)(l:Ir D.os D.i D.dt=true)(A:Reach P (lS D.F (.ops D.ops [D.i,D.ops.size,D.i+1,D.wm,D.sm]::D.F.todo)) D.S G):Reach P F0 S0 G:=by
 obtain⟨k1,k2,k3,k4,k5,k6,k7⟩:=h.jr
 cases m:D.os with
 | nil=>simp_all[Ir]
 | cons o os=>
 obtain⟨h1,h2,h3,h4⟩:=h.here m
 rw[m] at l
 simp only[Ir] at l
 split at l
 · rename_i hb
   have hb:(ay D.dt o.after.toList).succ=2 ^ D.i:=(np hb).trans (Nat.one_shiftLeft _)
   have d:∀ i,D.i≤i→i<D.ops.size→∀ j,j<D.i∨(j=D.i∧D.i<i)→zq D.ops i j=true:=by
    intro i hi r j x
    rcases Nat.eq_or_lt_of_le hi with q | q
    · subst q
      unfold zq
      rw[u5 h1,←h.dt]
      rw[show ay D.dt o.after.toList=2 ^ D.i-1 from by omega,yc,Nat.testBit_two_pow_sub_one]
      have:j<D.i:=by omega
      simpa using this
    · obtain⟨k,rfl⟩:∃ k,i=D.i+1+k:=⟨i-(D.i+1),by omega⟩
      have p:D.ops[D.i+1+k]? = some D.ops[D.i+1+k]:=Ak r
      have B:os[k]? = some D.ops[D.i+1+k]:=by rw[h2,su];simpa using p
      have:=O8 os _ _ _ l k _ B
      have e:gg (os.take k) (D.i+1) ((D.i,ay D.dt o.after.toList)::D.dt)=gg (D.ops.toList.take (D.i+1+k)) 0 []:=by
       rw[List.take_add,II,h4,Bf,←h.dt,h2]
       simp only[nv,List.length_take,xh,uu,List.length_singleton]
       rw[Nat.min_eq_left h.hi]
      unfold zq
      rw[u5 p,←e,yc]
      have y:(Nat.pred (Nat.shiftLeft 1 (Nat.succ D.i))).testBit j=true:=by
       rw[show Nat.shiftLeft 1 (Nat.succ D.i)=2 ^ (D.i+1) from Nat.one_shiftLeft _,Nat.pred_eq_sub_one,Nat.testBit_two_pow_sub_one]
       simp;omega
      rw[←this] at y
      have f:((ay (gg (os.take k) (D.i+1) ((D.i,ay D.dt o.after.toList)::D.dt)) D.ops[D.i+1+k].after.toList) &&& Nat.pred (Nat.shiftLeft 1 (Nat.succ D.i))).testBit j=true:=y
      rw[Nat.testBit_and] at f
      simp only[aY] at f
      exact f.1
   exact Reach.drawn n h.mode h.todo h.dn h.BS h.dp h.hi (qR h.ok) (fun i a b j c=>d i a b j (.inl c)) (fun i j C H _ x I p s=>xG h.ok i j C H x I p s)
    (fun z t aE J q2 q3=>by
      obtain⟨O,t2,l2,K,L,M,N⟩:=aef (qR h.ok) h3 (fun i a b=>d i (by omega) b _ (.inr ⟨rfl,a⟩)) (t:=t) J q2 q3
      rw[K]
      exact .cons h3 (.rest (D.i+1) D.wm D.sm L M N)) (F' := lS D.F (.ops D.ops [D.i,D.ops.size,D.i+1,D.wm,D.sm]::D.F.todo)) ⟨by rw[fA];exact k1,by rw[fA],by rw[fA];exact k2,by rw[fA];exact k3⟩
    (by rw[fA];exact k4) (by rw[fA];exact k5) (by rw[fA];exact k6) (by rw[fA];exact k7)
    (fun t u e=>h.wu t u (by rw[fA] at e;exact e)) h.nx h.lim h.get A
 · simp at l
structure Qk (E E' : ag) : Prop where
 nx : E.nx ≤ E'.nx
 lim : E'.lim = E.lim
 w6 : ∀ id, id < E.lim → E'.get id = E.get id
 dead : ∀ id, id < E.nx → E.get id = none → E'.get id = none
 wf : ∀ id o, E'.get id = some o → id < E'.nx
variable {g : Gh} {w : World} {fr : Frame}
theorem DI.inst (h:DI P F0 S0 D E E' v ch)(hf:m8 P g F0 fr)(hi:Inv S0 g w) :
   ∃(d:Frame) (w' : World) (g' : Gh),d.mode=.run∧d.todo=[.inRegion D.ops [D.i]]∧Inv D.S g' w' ∧ ∀ t u,D.F.get t=some u→∃ x,d.tmps[t]? = some x∧VR g' u x:=by
 have n:=hf.runs h.mode
 have J:=qR h.ok
 have key:∀ k,lo F0≤k→k≤D.i→∃(d:Frame) (w' : World) (g' : Gh),DJ D.ops F0 S0 E' v ch (fun j=>decide (j<k)) D.i g w fr g' w' d∧d.todo=[.inRegion D.ops (List.range' k (D.i+1-k))]:=by
   intro k f
   induction f with
   | refl=>
     intro _
     exact⟨{ fr with todo:=[.inRegion D.ops (List.range' (lo F0) (D.i+1-lo F0))] },w,g,DJ.init h.dn hf hi _ 0 h.BS,rfl⟩
   | @step k f K=>
     intro hk
     have f:lo F0≤k:=f
     obtain⟨s,w1,A,a,b⟩:=K (by omega)
     rw[show D.i+1-k=(D.i+1-(k+1))+1 from by omega,List.range'_succ] at b
     obtain ⟨B,L,M,_,N,a2⟩:=a.step (cs:=[]) h.dp h.hi (fun i j O Q _ m R T C=>xG h.ok i j O Q m R T C) (fun id o e=>hi.lU e) (i:=k) f (by omega) (by simp)
       (fun j m=>by
        have m:j<k:=by simpa using m
        exact⟨by omega,fun l U=>by have:=J.lt j l U;simp;omega⟩) (fun j m=>by have:=J.lt k j m;simpa using this) n b
     refine⟨B,L,M,a2.congr fun j _=>?_,N⟩
     by_cases e:j=k
     · subst e;rw[pB];simp
     · rw[nc _ e];simp only[decide_eq_decide];omega
 obtain⟨s,w1,A,a,b⟩:=key D.i h.BS (bJ _)
 have s3:=a.congr (Y:=fun _=>true) fun j m=>by simpa using m
 have y:s.mode=.run:=by rw[a.frame];exact n
 refine⟨s,w1,A,y,by rw[b,show D.i+1-D.i=1 from by omega];rfl,⟨s3.ro,?_,?_,?_⟩,?_⟩
 · intro id o e
   rw[h.get] at e
   split at e<;>simp only[ba,reduceCtorEq] at e
   rename_i o' st r
   subst e
   obtain⟨l,a,b,c⟩:=s3.ob id _ st r
   exact⟨l,(Gh.ka a).2,b,c.mono (Gh.FB _ _)⟩
 · intro id H o o' l l' e r p V hb
   rw[h.get] at e r
   split at e<;>simp only[ba,reduceCtorEq] at e
   rename_i o1 I W
   split at r<;>simp only[ba,reduceCtorEq] at r
   rename_i o2 z Z
   exact s3.inj id H o1 o2 I z l l' W Z p V hb
 · intro id bE
   cases e:A.ph id with
   | none=>rfl
   | some l=>
     exfalso
     rw[h.nx] at bE
     rcases s3.afx id l e with q | ⟨j,q1,_,_,q3⟩
     · have:=nb h.dp (bU D.i) (bJ _)
       have h0:nn S0 E' 0=S0.nx:=rfl
       omega
     · have:=nb h.dp (show j+1≤D.i by omega) (bJ _)
       omega
 · intro t u e
   obtain⟨st,r⟩:=h.wu t u e
   obtain⟨x,a,b⟩:=s3.wu t u st r
   exact⟨x,a,b.mono (Gh.FB _ _)⟩
theorem Inv.less {A B:ag}(d:A.nx=B.nx)(a:∀ id o,A.get id=some o→B.get id=some o)(h:Inv B g w):Inv A g w:=
 ⟨h.ro,fun id o e=>h.ob id o (a id o e),fun id b o o' l l' e c=>h.inj id b o o' l l' (a _ _ e) (a _ _ c),fun id bE=>h.fresh id (by omega)⟩
theorem DI.facts (h:DI P F0 S0 D E E' v ch)(hf:m8 P g F0 fr)(hi:Inv S0 g w)(l:D.os=o::os)(j:n7 P D.ops o D.F.get En vn En')(m:En.nx=D.S.nx)(n:∀ id ob,En.get id=some ob→D.S.get id=some ob):Qk En En' := by
 obtain⟨k,w1,p,a,b,c,d⟩:=h.inst hf hi
 obtain⟨r,s,x,_,_,q,f⟩:=j p w1 k [] D.i [] [] a b (h.here l).1 (fun t _ u e=>d t u e) (c.less m n)
 exact⟨f.nx,f.lim,f.w6,f.dead,fun id o e=>q.lU e⟩
end
noncomputable section
theorem F9 (a b:xZ)(id:Nat):qW (a++b) id=(qW a id||qW b id):=by
 induction a with
 | nil=>rfl
 | cons p r d=>
   obtain⟨k,o⟩:=p
   simp only[zD,qW]
   cases Nat.beq k id<;>simp_all
variable {c : xZ} {id : Nat}
theorem tJ (h:qW c id=true):∃ ob,(id,ob)∈c:=by
 induction c with
 | nil=>simp[qW] at h
 | cons p r a=>
   obtain⟨k,o⟩:=p
   simp only[qW] at h
   cases hb:Nat.beq k id with
   | true=>
     simp_all
   | false=>
     rw[hb] at h
     obtain⟨ob,q⟩:=a h
     exact⟨ob,Ez _ q⟩
variable {ob : Option aO}
theorem ael (h:(id,ob)∈c):qW c id=true:=by
 induction c with
 | nil=>simp at h
 | cons p r a=>
   obtain⟨k,o⟩:=p
   simp only[qW]
   rcases cF.1 h with e | h
   · simp_all
   · cases Nat.beq k id<;>simp_all
def C7 (c:xZ)(G:ag):Prop:=∀ id ob,(id,ob)∈c→Ok id∧∀ x,ob=some x→G.get id=some x
variable {G : ag}
theorem C7.lt (h:C7 c G)(e:qW c id=true):Ok id:=by simp_all
theorem C7.append {a b:xZ}(h:C7 a G)(d:C7 b G):C7 (a++b) G:=by
 intro id ob e
 rcases dG.1 e with q | q
 · exact h id ob q
 · exact d id ob q
theorem uW (hi:Ok id):∀ {c:xZ} {m:PT},(∀ k ob,(k,ob)∈c→Ok k)→qW c id=false→PT.get dep (uk m c) id=PT.get dep m id:=by
 intro c
 induction c with
 | nil=>intro m _ _;rfl
 | cons p r e=>
   obtain⟨k,o⟩:=p
   intro m d h
   simp only[qW] at h
   split at h
   · simp at h
   · rename_i hb
     simp only[uk]
     rw[e (fun a b q=>d a b (Ez _ q)) h]
     exact PT.bt dep m k id o (d k o (jq ..)) hi (by rintro rfl;simp_all)
theorem EI (hi:Ok id):∀ {c:xZ} {m:PT},(∀ k ob,(k,ob)∈c→Ok k)→qW c id=true→∃ ob,(id,ob)∈c∧PT.get dep (uk m c) id=ob:=by
 intro c
 induction c with
 | nil=>intro m _ h;simp[qW] at h
 | cons p r g=>
   obtain⟨k,o⟩:=p
   intro m d h
   have f:∀ a b,(a,b)∈r→Ok a:=fun a b q=>d a b (Ez _ q)
   simp only[uk]
   cases e:qW r id with
   | true=>
     simp_all
   | false=>
     simp only[qW] at h
     split at h
     · rename_i hb
       have:k=id:=np hb
       simp_all[uW,PT.cQ]
     · rw[e] at h;simp at h
variable {pi : Nat}
theorem MJ : ∀ {l:List (Nat×Le)},jl pi l id=true→∀ j c,(j,c)∈l→tb pi j=false→c.has id=false:=by
 intro l
 induction l with
 | nil=>intro _ j c h;simp at h
 | cons p r a=>
   obtain⟨k,d⟩:=p
   intro h j c hm b
   simp only[jl] at h
   have g:tb pi k=false→d.has id=false:=by
    intro e;rw[e] at h
    cases q:d.has id<;>simp_all
   have f:jl pi r id=true:=by
    cases e:tb pi k<;>simp_all
   rcases cF.1 hm with e | hm
   · simp_all
   · exact a f j c hm b
theorem O9 : ∀ {l:List (Nat×ag)},sJ pi l id=true→∀ j E,(j,E)∈l→tb pi j=false→E.get id=none:=by
 intro l
 induction l with
 | nil=>intro _ j c h;simp at h
 | cons p r a=>
   obtain⟨k,d⟩:=p
   intro h j c hm b
   simp only[sJ] at h
   have g:tb pi k=false→d.get id=none:=by
    intro e;rw[e] at h
    cases q:d.get id<;>simp_all
   have f:sJ pi r id=true:=by
    cases e:tb pi k<;>simp_all
   rcases cF.1 hm with e | hm
   · simp_all
   · exact a f j c hm b
theorem qy {nx:Nat}{es:List (Nat×ag)}:∀ {l:List Nat},ke pi es nx l=true→∀ id,id∈l→id<nx→sJ pi es id=true:=by
 intro l
 induction l with
 | nil=>intro _ id h;simp at h
 | cons k r b=>
   intro h id hm a
   simp only[ke] at h
   have d:ke pi es nx r=true:=by
     split at h
     · exact h
     · split at h
       · exact h
       · simp at h
   rcases cF.1 hm with rfl | hm
   · split at h
     · rename_i hb
       have:=gb hb
       omega
     · split at h
       · assumption
       · simp at h
   · exact b d id hm a
theorem R0 : ∀ {l:List (Nat×ag)},C6 pi l=true→∀ j E,(j,E)∈l→tb pi j=true:=by
 intro l
 induction l with
 | nil=>intro _ j E h;simp at h
 | cons p r a=>
   obtain⟨k,d⟩:=p
   intro h j E hm
   simp only[C6] at h
   split at h
   · rename_i e
     rcases cF.1 hm with q | hm
     · simp_all
     · exact a h j E hm
   · simp at h
variable {S : ag} {o : aO}
theorem AU {kx:List (Nat×Le)}(hi:Ok id):∀ {ids:List Nat} {m:PT},PT.get dep (seen S pi kx ids m) id=some o →
   PT.get dep m id=some o∨(id∈ids∧S.get id=some o∧jl pi kx id=true):=by
 intro ids
 induction ids with
 | nil=>intro m h;exact .inl h
 | cons k r b=>
   intro m h
   simp only[seen] at h
   have up:∀ {m},PT.get dep (seen S pi kx r m) id=some o→PT.get dep m id=some o∨(id∈k::r∧S.get id=some o∧jl pi kx id=true):=by
     intro m h
     rcases b h with q | ⟨f,q2,q3⟩
     all_goals simp_all
   split at h
   · rename_i g
     split at h
     · rename_i ob a
       have d:=ag.gv a
       rcases up h with q | q
       · by_cases e:k=id
         · simp_all[PT.cQ]
         · rw[PT.bt dep m k id _ d hi e] at q
           exact .inl q
       · exact .inr q
     · exact up h
   · exact up h
theorem Vr (hi:Ok id):∀ {l:List Nat} {m:PT},(∀ k,k∈l→Ok k)→PT.get dep (jA m l) id=some o→id∉l∧PT.get dep m id=some o:=by
 intro l
 induction l with
 | nil=>intro m _ h;exact⟨by simp,h⟩
 | cons k r f=>
   intro m d h
   obtain⟨g,q2⟩:=f (m:=PT.set dep m k none) (fun a b=>d a (Ez _ b)) h
   by_cases e:k=id
   · simp_all[PT.cQ]
   · rw[PT.bt dep m k id _ (d k (jq ..)) hi e] at q2
     exact⟨by simp only[cF,not_or];exact⟨fun q=>e q.symm,g⟩,q2⟩
theorem Pa (hi:Ok id):∀ {l:List Nat} {m:PT},(∀ k,k∈l→Ok k)→PT.get dep (zB S m l) id=if id∈l then S.get id else PT.get dep m id:=by
 intro l
 induction l with
 | nil=>intro m _;simp[zB]
 | cons k r g=>
   intro m d
   simp only[zB]
   rw[g fun a b=>d a (Ez _ b)]
   by_cases f:id∈r
   · simp_all
   · rw[if_neg f]
     by_cases e:k=id
     · subst e;rw[PT.cQ,if_pos (jq ..)]
     · rw[PT.bt dep m k id _ (d k (jq ..)) hi e,if_neg (by simp only[cF,not_or];exact⟨fun q=>e q.symm,f⟩)]
theorem Pb : ∀ {l:List (Nat×Le)} {bE:List Nat},hidden pi l=some bE→(∀ j c,(j,c)∈l→tb pi j=false→∀ id,c.has id=true→id∈bE)∧∀ id,id∈bE→∃ j c,(j,Le.WO c)∈l∧qW c id=true:=by
 intro l
 induction l with
 | nil=>simp_all[hidden]
 | cons p r n=>
   obtain⟨k,d⟩:=p
   intro bE h
   simp only[hidden] at h
   cases e:tb pi k with
   | true=>
     rw[e] at h
     obtain⟨g,q2⟩:=n h
     refine⟨fun j c hm i id f=>?_,fun id hm=>let ⟨j,c,a,b⟩:=q2 id hm;⟨j,c,Ez _ a,b⟩⟩
     rcases cF.1 hm with q | hm
     · simp_all
     · exact g j c hm i id f
   | false=>
     rw[e] at h
     cases d with
     | wide a b=>simp at h
     | WO c=>
       simp only at h
       cases m:hidden pi r with
       | none=>rw[m] at h;simp at h
       | some l=>
         rw[m] at h
         simp only[ba] at h
         subst h
         obtain⟨g,q2⟩:=n m
         refine⟨fun j c' hm i id f=>?_,fun id hm=>?_⟩
         · rcases cF.1 hm with q | hm
           · simp only[lR] at q;obtain⟨rfl,rfl⟩:=q
             obtain⟨ob,q⟩:=tJ (show qW c id=true from f)
             exact dG.2 (.inl (iB.2 ⟨_,q,rfl⟩))
           · exact dG.2 (.inr (g j c' hm i id f))
         · rcases dG.1 hm with q | q
           · obtain⟨⟨s,ob⟩,a,b⟩:=iB.1 q
             simp only at b;subst b
             exact⟨k,c,jq .., ael a⟩
           · obtain⟨j,c', a,b⟩:=q2 id q
             exact⟨j,c', Ez _ a,b⟩
variable {E : ag}
theorem Ga : ∀ {ids:List Nat} {id:Nat} {ob:Option aO},(id,ob)∈od E S ids→id∈ids∧E.get id≠none∧ob=S.get id:=by
 intro ids
 induction ids with
 | nil=>intro id ob h;simp[od] at h
 | cons k r d=>
   intro id ob h
   simp only[od] at h
   split at h
   · rename_i x hx
     rcases cF.1 h with q | h
     · simp_all
     · obtain⟨a,b⟩:=d h;simp_all
   · obtain⟨a,b⟩:=d h;simp_all
theorem R1 : ∀ {ids:List Nat} {id:Nat},id∈ids→E.get id≠none→qW (od E S ids) id=true:=by
 intro ids
 induction ids with
 | nil=>intro id h;simp at h
 | cons k r a=>
   intro id h b
   simp only[od]
   cases d:E.get k with
   | some x=>
     simp only[qW]
     cases hb:Nat.beq k id with
     | true=>rfl
     | false=>
       rcases cF.1 h with rfl | h
       all_goals simp_all
   | none=>
     rcases cF.1 h with rfl | h
     all_goals simp_all
theorem vO {n:Nat}:∀ {k id:Nat} {ob:Option aO},(id,ob)∈sU E n k→n≤id∧id<n+k∧E.get id≠none∧ob=E.get id:=by
 intro k
 induction k with
 | zero=>intro id ob h;simp[sU] at h
 | succ k d=>
   intro id ob h
   simp only[sU] at h
   split at h
   · rename_i x hx
     rcases cF.1 h with q | h
     · simp_all
     · obtain⟨a,b,c⟩:=d h;exact⟨a,by omega,c⟩
   · obtain⟨a,b,c⟩:=d h;exact⟨a,by omega,c⟩
variable {lo : Nat}
theorem Vs {a:xZ}(h:aad E lo a id=some o):lo≤id∧E.get id=some o:=by
 unfold aad at h
 split at h<;>try (simp at h;done)
 rename_i h1
 split at h<;>try (simp at h;done)
 simp_all
theorem tl : ∀ {n:Nat} {l:List AV} {b:xZ} {id:Nat} {ob:Option aO},(id,ob)∈mN E lo n l b→(id,ob)∈b∨(lo≤id∧E.get id≠none∧ob=E.get id):=by
 intro n
 induction n with
 | zero=>intro l b id ob h;exact .inl (by cases l<;>exact h)
 | succ n d=>
   intro l b id ob h
   cases l with
   | nil=>exact .inl h
   | cons v r=>
     simp only[mN] at h
     split at h
     · exact d h
     · split at h
       · rename_i o e
         obtain⟨a,c⟩:=Vs e
         rcases d h with q | q
         · rcases cF.1 q with q | q
           all_goals simp_all
         · exact .inr q
       · exact d h
section
variable {P : Program} {F0 : ae} {S0 : ag} {D : rX} {E E' : Nat → ag} {v : Nat → AV} {ch : Nat → Nat → Option (Option aO)} {o : Oper} {os : List Oper}
theorem LX {E:ag}{v:AV}(h:(id,ob)∈Rp E lo v):lo≤id∧E.get id≠none∧ob=E.get id:=by
 unfold Rp at h
 split at h
 · obtain⟨a,_,b,c⟩:=vO h;exact⟨a,b,c⟩
 · rcases tl h with q | q
   · simp at q
   · exact q
theorem DI.clear (h:DI P F0 S0 D E E' v ch)(d:jl pi D.kx id=true):∀ j,j<D.i→tb pi j=false→ch j id=none:=by
 intro j f g
 cases e:ch j id with
 | none=>rfl
 | some r=>
   obtain⟨c,a,b⟩:=h.kx j f id (by rw[e];simp)
   rw[MJ d j c a g] at b
   simp at b
theorem DI.ajA (h:DI P F0 S0 D E E' v ch)(a:sJ pi D.es id=true):∀ j,j<D.i→tb pi j=false→(E j).get id=none:=by
 intro j b d
 cases e:(E j).get id with
 | none=>rfl
 | some r=>
   have:=O9 a j _ (h.es j b id (by rw[e];simp)) d
   simp_all
theorem DI.next (h:DI P F0 S0 D E E' v ch)(H:D.os=o::os){En En' : ag}{vn:AV}{c:xZ}{Eo:Option ag}
   (y:n7 P D.ops o D.F.get En vn En') (z:En.nx=D.S.nx) (l:En.nx≤En'.nx) (t:D.S.lim≤En.lim)
   (u:∀ id ob,En.get id=some ob→D.S.get id=some ob∧∀ j,j<D.i→tb (ay D.dt o.after.toList) j=false→ch j id=none)
   (I:∀ id,qW c id=true→id<D.S.nx→sJ (ay D.dt o.after.toList) D.es id=true)
   (d:C7 c En') (J:∀ id ob,En.get id=some ob→En.lim≤id→qW c id=true)
   (C:∀ id,qW c id=true→En.lim≤id∧id<En'.nx∧(En.get id≠none∨En.nx≤id))
   (A:Eo=some En∨(Eo=none∧∀ id,En.get id=none)) :
   ∃ E E' v ch,DI P F0 S0 (D.next o os (ay D.dt o.after.toList) vn En'.nx c Eo) E E' v ch:=by
 have s:∀ k ob,(k,ob)∈c→Ok k:=fun k ob q=>(d k ob q).1
 obtain⟨chn,w⟩:∃ f:Nat→Option (Option aO),f=fun id=>if qW c id=true then some (PT.get dep (uk D.S.m c) id) else none:=⟨_,rfl⟩
 have h1:∀ id,chn id≠none→qW c id=true:=by
   simp_all
 have h2:∀ id,qW c id=true→chn id=some (PT.get dep (uk D.S.m c) id):=by simp_all
 refine⟨_,_,_,_,h.step H (chn:=chn) (vn:=vn) rfl y z l t u ?_ ?_ ?_ ?_ ?_ rfl rfl rfl rfl rfl rfl rfl ?_ ?_ ?_ ?_ ?_ ?_⟩
 · intro j K L id e B
   exact h.ajA (I id (h1 id e) B) j K L
 · intro id ob e
   have g:=h1 id (by rw[e];simp)
   rw[h2 id g] at e
   obtain⟨ob', a,b⟩:=EI (m:=D.S.m) (d.lt g) s g
   rw[b] at e
   simp only[ba] at e
   exact(d id ob' a).2 ob e
 · intro id ob e M
   rw[h2 id (J id ob e M)];simp
 · intro id e
   obtain⟨a,b,_⟩:=C id (h1 id e)
   exact⟨a,b⟩
 · intro id e
   exact(C id (h1 id e)).2.2
 · intro id
   by_cases bE:Ok id
   · rw[ag.cE bE]
     show PT.get dep (uk D.S.m c) id=_
     cases q:qW c id with
     | true=>rw[h2 id q]
     | false=>
       rw[uW bE s q]
       have:chn id=none:=by rw[w];simp[q]
       rw[this]
       exact(ag.cE bE).symm
   · rw[ag.rC bE]
     cases q:chn id with
     | none=>exact(ag.rC bE).symm
     | some r=>exact absurd (d.lt (h1 id (by rw[q];simp))) bE
 · intro id e
   have g:=h1 id e
   refine⟨.WO c,?_,g⟩
   simp only[rX.next,Tp,BY]
   cases c with
   | nil=>simp[qW] at g
   | cons p r=>exact jq ..
 · intro p n
   simp only[rX.next,Tp,BY]
   cases c with
   | nil=>exact n
   | cons q r=>exact Ez _ n
 · intro j c' x id g
   simp only[rX.next,Tp,BY] at x
   cases c with
   | nil=>exact h.small j c' x id g
   | cons q r=>
     rcases cF.1 x with e | e
     · simp only[lR,Le.WO.injEq] at e
       obtain⟨rfl,rfl⟩:=e
       exact d.lt g
     · exact h.small j c' e id g
 · intro id e
   rcases A with rfl | ⟨rfl,q⟩
   · exact jq ..
   · exact absurd (q id) e
 · intro p n
   simp only[rX.next,Tp,BY]
   cases Eo with
   | none=>exact n
   | some _=>exact Ez _ n
theorem DI.UF (h:DI P F0 S0 D E E' v ch):D.S.lim≤D.S.nx:=by
 have:=nb h.dp (bU D.i) (bJ _)
 have a:nn S0 E' 0=S0.nx:=rfl
 have:=h.agr
 rw[h.lim,h.nx];omega
theorem DI.news (h:DI P F0 S0 D E E' v ch)(z:∀ id o,S0.get id=some o→id<S0.nx)(A:D.os=o::os){En En' : ag}{vn:AV}{ids:List Nat}{nw:xZ}{Eo:Option ag}
   (s:n7 P D.ops o D.F.get En vn En') (r:Qk En En') (k:En.nx=D.S.nx) (d:En.lim=D.S.lim∨En.lim=D.S.nx)
   (f:∀ id ob,En.get id=some ob→D.S.get id=some ob∧∀ j,j<D.i→tb (ay D.dt o.after.toList) j=false→ch j id=none)
   (n:∀ id ob,En.get id=some ob→En.lim≤id→id<En.nx→id∈ids) (p:∀ id,id∈ids→En.get id≠none→En.lim≤id)
   (t:∀ id,id∈ids→En.get id≠none→id<D.S.nx→sJ (ay D.dt o.after.toList) D.es id=true)
   (l:∀ id ob,(id,ob)∈nw→En.nx≤id∧En'.get id≠none∧ob=En'.get id)
   (u:Eo=some En∨(Eo=none∧∀ id,En.get id=none)) :
   ∃ E E' v ch,DI P F0 S0 (D.next o os (ay D.dt o.after.toList) vn En'.nx (od En En' ids++nw) Eo) E E' v ch:=by
 have C:=h.UF
 have g:∀ {id},qW (od En En' ids++nw) id=true→(id∈ids∧En.get id≠none)∨(En.nx≤id∧En'.get id≠none):=by
   intro id e
   rw[F9,xl] at e
   rcases e with e | e
   · obtain⟨ob,q⟩:=tJ e
     obtain⟨a,b,_⟩:=Ga q
     exact .inl ⟨a,b⟩
   · obtain⟨ob,q⟩:=tJ e
     obtain⟨a,b,_⟩:=l id ob q
     exact .inr ⟨a,b⟩
 have m:∀ {id},En.get id≠none→id<En.nx:=by
   intro id e
   cases q:En.get id with
   | none=>exact absurd q e
   | some ob=>rw[k];exact h.wf z (f id ob q).1
 refine h.next A s k r.nx (by rcases d with e | e<;>omega) f ?_ ?_ ?_ ?_ u
 · intro id e w
   rcases g e with⟨a,b⟩ | ⟨a,_⟩
   · exact t id a b w
   · omega
 · refine C7.append (fun id ob q=>?_) fun id ob q=>?_
   · obtain⟨a,b,c⟩:=Ga q
     refine⟨?_,fun x hx=>by rw[←c];exact hx⟩
     cases e:En.get id with
     | none=>exact absurd e b
     | some y=>exact ag.gv e
   · obtain⟨a,b,c⟩:=l id ob q
     refine⟨?_,fun x hx=>by rw[←c];exact hx⟩
     cases e:En'.get id with
     | none=>exact absurd e b
     | some y=>exact ag.gv e
 · intro id ob e B
   rw[F9,R1 (n id ob e B (m (by rw[e];simp))) (by rw[e];simp),Bool.true_or]
 · intro id e
   rcases g e with⟨a,b⟩ | ⟨a,b⟩
   · exact⟨p id a b,mJ (m b) r.nx,.inl b⟩
   · refine⟨by rcases d with q | q<;>omega,?_,.inr a⟩
     cases q:En'.get id with
     | none=>exact absurd q b
     | some y=>exact r.wf id y q
theorem LY (hi:Ok id):∀ {l:List Nat} {m:PT},(∀ k,k∈l→Ok k)→PT.get dep (jA m l) id=if id∈l then none else PT.get dep m id:=by
 intro l
 induction l with
 | nil=>intro m _;simp[jA]
 | cons k r g=>
   intro m d
   simp only[jA]
   rw[g fun a b=>d a (Ez _ b)]
   by_cases f:id∈r
   · simp_all
   · rw[if_neg f]
     by_cases e:k=id
     · subst e;rw[PT.cQ,if_pos (jq ..)]
     · rw[PT.bt dep m k id _ (d k (jq ..)) hi e,if_neg (by simp only[cF,not_or];exact⟨fun q=>e q.symm,f⟩)]
theorem DI.bE (h:DI P F0 S0 D E E' v ch){pi:Nat}{bE:List Nat}(hh:hidden pi D.kx=some bE) :
   (∀ k,k∈bE→Ok k)∧(∀ id,id∉bE→∀ j,j<D.i→tb pi j=false→ch j id=none)∧∀ nx lim id,(⟨nx,lim,jA D.S.m bE⟩:ag).get id=if id∈bE then none else D.S.get id:=by
 obtain⟨f,q2⟩:=Pb hh
 have d:∀ k,k∈bE→Ok k:=fun k g=>let ⟨j,c,a,b⟩:=q2 k g;h.small j c a k b
 refine⟨d,fun id l j n p=>?_,fun nx lim id=>?_⟩
 · cases e:ch j id with
   | none=>rfl
   | some r=>
     obtain⟨c,a,b⟩:=h.kx j n id (by rw[e];simp)
     exact absurd (f j c a p id b) l
 · by_cases hi:Ok id
   · rw[ag.cE hi]
     show PT.get dep (jA D.S.m bE) id=_
     rw[LY hi d,ag.cE hi]
   all_goals simp_all
theorem DI.wide (h:DI P F0 S0 D E E' v ch)(A:∀ id o,S0.get id=some o→id<S0.nx)(C:D.os=o::os){bE:List Nat}{d:ag}{vn:AV}(hh:hidden (ay D.dt o.after.toList) D.kx=some bE)(ha:C6 (ay D.dt o.after.toList) D.es=true)
   (w:n7 P D.ops o D.F.get ⟨D.S.nx,D.S.lim,jA D.S.m bE⟩ vn d) (n:Qk ⟨D.S.nx,D.S.lim,jA D.S.m bE⟩ d) :
   ∃ E E' v ch,DI P F0 S0 (D.T4 o os ⟨D.S.nx,D.S.lim,jA D.S.m bE⟩ (ay D.dt o.after.toList) bE vn d) E E' v ch:=by
 obtain⟨x,y,z⟩:=h.bE hh
 generalize l:(⟨D.S.nx,D.S.lim,jA D.S.m bE⟩:ag)=En at *
 have k:En.nx=D.S.nx:=by rw[←l]
 have N:En.lim=D.S.lim:=by rw[←l]
 have t:∀ id,En.get id=if id∈bE then none else D.S.get id:=fun id=>by rw[←l];exact z _ _ id
 have i:∀ {id ob},En.get id=some ob→id∉bE∧D.S.get id=some ob:=by
   intro id ob e
   rw[t] at e
   split at e
   · simp at e
   · exact⟨by assumption,e⟩
 obtain⟨chn,g⟩:∃ f:Nat→Option (Option aO),f=fun id=>if id∉bE∧D.S.lim≤id∧id<d.nx∧(En.get id≠none∨En.nx≤id) then some (d.get id) else none:=⟨_,rfl⟩
 have h1:∀ id,chn id≠none→id∉bE∧D.S.lim≤id∧id<d.nx∧(En.get id≠none∨En.nx≤id):=by
   intro id e
   rw[g] at e
   by_cases q:id∉bE∧D.S.lim≤id∧id<d.nx∧(En.get id≠none∨En.nx≤id)
   · exact q
   · exact absurd (if_neg q) e
 have h2:∀ id,(id∉bE∧D.S.lim≤id∧id<d.nx∧(En.get id≠none∨En.nx≤id))→chn id=some (d.get id):=by intro id q;rw[g];exact if_pos q
 have h3:∀ id,¬ (id∉bE∧D.S.lim≤id∧id<d.nx∧(En.get id≠none∨En.nx≤id))→chn id=none:=by intro id q;rw[g];exact if_neg q
 refine⟨_,_,_,_,h.step C (chn:=chn) (vn:=vn) rfl w k n.nx (by omega) ?_ ?_ ?_ ?_ ?_ ?_ rfl rfl rfl rfl rfl rfl rfl ?_ ?_ ?_ ?_ ?_ ?_⟩
 · intro id ob e
   obtain⟨a,b⟩:=i e
   exact⟨b,y id a⟩
 · intro j H I id _ _
   cases e:(E j).get id with
   | none=>rfl
   | some r=>
     have:=R0 ha j _ (h.es j H id (by rw[e];simp))
     rw[I] at this;simp at this
 · intro id ob e
   rw[h2 id (h1 id (by rw[e];simp))] at e
   simpa using e
 · intro id ob e O
   obtain⟨a,b⟩:=i e
   rw[h2 id ⟨a,by omega,mJ (by rw[k];exact h.wf A b) n.nx,.inl (by rw[e];simp)⟩]
   simp
 · intro id e
   obtain⟨_,a,b,_⟩:=h1 id e
   exact⟨by omega,b⟩
 · intro id e
   exact(h1 id e).2.2.2
 · intro id
   show(⟨d.nx,D.S.lim,zB D.S d.m bE⟩:ag).get id=_
   by_cases hi:Ok id
   · rw[ag.cE hi]
     show PT.get dep (zB D.S d.m bE) id=_
     rw[Pa hi x]
     by_cases q:id∈bE
     · rw[if_pos q,h3 id (fun c=>c.1 q)]
     · rw[if_neg q,←ag.cE hi (s:=d)]
       have B:En.get id=D.S.get id:=by rw[t,if_neg q]
       by_cases c:id∉bE∧D.S.lim≤id∧id<d.nx∧(En.get id≠none∨En.nx≤id)
       · rw[h2 id c]
       · rw[h3 id c]
         by_cases l1:id<D.S.lim
         · simp only[n.w6 id (by omega),B]
         · by_cases l2:id<d.nx
           · have l3:En.get id=none∧id<En.nx:=by
              refine⟨?_,?_⟩
              · cases e:En.get id with
                | none=>rfl
                | some _=>exact absurd ⟨q,by omega,l2,.inl (by rw[e];simp)⟩ c
              · refine Nat.lt_of_not_le fun e=>c ⟨q,by omega,l2,.inr e⟩
             rw[n.dead id l3.2 l3.1,←B,l3.1]
           · have J:d.get id=none:=by
              cases e:d.get id with
              | none=>rfl
              | some o=>exact absurd (n.wf id o e) l2
             have K:D.S.get id=none:=by
              cases e:D.S.get id with
              | none=>rfl
              | some o=>exact absurd (mJ (h.wf A e) (by have:=n.nx;omega)) l2
             rw[J,K]
   · rw[ag.rC hi]
     cases q:chn id with
     | none=>exact(ag.rC hi).symm
     | some r=>
       have:=h2 id (h1 id (by rw[q];simp))
       rw[q] at this
       simp only[ba] at this
       subst this
       exact(ag.rC hi).symm
 · intro id e
   obtain⟨_,a,b,_⟩:=h1 id e
   refine⟨.wide D.S.lim d.nx,jq .., ?_⟩
   simp only[Le.has]
   rw[EY a]
   exact EY b
 · intro p u;exact Ez _ u
 · intro j c L id M
   rcases cF.1 L with e | e
   · simp at e
   · exact h.small j c e id M
 · intro id e;exact jq ..
 · intro p u;exact Ez _ u
end
end
noncomputable section
def di (T:FT)(P:Program):Prop:=∀ f e,FT.look T f=some e→P.funcs[f]? = some e.fn∧e.fn.body=some e.body∧nz P f=true ∧
 ∀ x,e.ext=some x→∀ args S v S', x args S=some (v,S')→fY P f args S fun r a=>r=.ret v∧a=S'
def GK (P:Program)(k:cH)(fn:Func)(Q:gL→dr→ag→Prop):ae→ag→Prop:=
 match mI k with
 | some id=>fun F' S' => Ll id F' S' fun r a=>Q r .run a
 | none=>match k with
   | .hole G=>G
   | _=>Fin P fn Q
def qJ (P:Program)(D:rX)(k:cH)(Q:gL→dr→ag→Prop):Prop:=
 ∀ a S0,(∃ E h v ch,DI P a S0 D E h v ch)→Reach P a S0 (GK P k D.fn Q)
def fD (P:Program)(Qf:gL→ag→Prop):cH→((gL→dr→ag→Prop)→Prop)→Prop
 | .nil,A=>A fun r _ S=>Qf r S
 | .hole _,A=>A fun _ _ _=>False
 | .call fn F o all rest td next,A=>fD P Qf next fun Q=>A fun r _ S=>Reach P (F.back o all rest td r) S (GK P next fn Q)
 | .rW fn F ds next,A=>fD P Qf next fun Q=>A fun r cm S=>Reach P { F with defers:=ds,mode:=jd r cm } S (GK P next fn Q)
 | .loop fn F d l td next,A=>fD P Qf next fun Q=>A fun r _ S=>Reach P (F.qI d l td r) S (GK P next fn Q)
 | .round fn F o all rest td _ next,A=>fD P Qf next fun Q=>A fun r _ S=>Reach P (F.back o all rest td r) S (GK P next fn Q)
 | .fU D o os E pi bE _ next,A=>∃ v a,A (fun r _ S=>r=.ret v∧S=a)∧fD P Qf next fun Q=>qJ P (D.jB o os E pi bE v a) next Q
def br (P:Program)(Qf:gL→ag→Prop):St→Prop
 | .run fn F S k=>fD P Qf k fun Q=>Reach P F S (GK P k fn Q)
 | .fU D k=>fD P Qf k fun Q=>qJ P D k Q
 | .done r S=>Qf r S
 | .fork fn k l=>∀ F S,(F,S)∈l→fD P Qf k fun Q=>Reach P F S (GK P k fn Q)
 | .bad _=>False
section
variable {T : FT} {P : Program} {Qf : gL → ag → Prop}
theorem fD.mono : ∀ {k:cH} {A j:(gL→dr→ag→Prop)→Prop},(∀ Q,A Q→j Q)→fD P Qf k A→fD P Qf k j:=by
 intro k
 induction k with
 | nil=>intro A j h q;exact h _ q
 | hole G=>intro A j h q;exact h _ q
 | call fn F o all rest td next m=>intro A j h q;exact m (fun Q=>h _) q
 | rW fn F ds next m=>intro A j h q;exact m (fun Q=>h _) q
 | loop fn F d l td next m=>intro A j h q;exact m (fun Q=>h _) q
 | round fn F o all rest td id next m=>intro A j h q;exact m (fun Q=>h _) q
 | fU D o os E pi bE p next m=>intro A j h q;obtain⟨v,n,a,b⟩:=q;exact⟨v,n,h _ a,b⟩
variable {fn : Func} {F : ae} {S S' : ag} {k : cH}
theorem br.reach {F' : ae}(h:∀ G,Reach P F' S' G→Reach P F S G)(q:br P Qf (.run fn F' S' k)):br P Qf (.run fn F S k):=fD.mono (fun _=>h _) q
variable {Q Q' : gL → dr → ag → Prop}
theorem GK.mono (j:∀ r cm S,Q r cm S→Q' r cm S)(q:GK P k fn Q F S):GK P k fn Q' F S:=by
 unfold GK at *
 cases m:mI k with
 | none=>
   rw[m] at q
   have key:∀ {Q Q' : gL→dr→ag→Prop},(∀ r cm S,Q r cm S→Q' r cm S)→Fin P fn Q F S→Fin P fn Q' F S:=by
     intro Q Q' j q
     obtain⟨a,b⟩:=q
     refine⟨a,?_⟩
     rcases b with⟨b,v,c,d⟩ | ⟨l,b,c⟩
     all_goals simp_all
   cases k with
   | hole G=>exact q
   | _=>exact key j q
 | some id=>
   rw[m] at q
   obtain⟨a,b⟩:=q
   refine⟨a,?_⟩
   rcases b with⟨b,st,h,f,n,mask,env,params,assign,body,c,d,e⟩ | ⟨l,b,c⟩
   · refine .inl ⟨b,st,h,f,n,mask,env,params,assign,body,c,d,?_⟩
     rcases e with⟨e,p⟩ | ⟨c', e,p⟩
     all_goals simp_all
   · simp_all
theorem Reach.cons (a:∀ r cm S,Q r cm S→Q' r cm S)(h:Reach P F S (GK P k fn Q)):Reach P F S (GK P k fn Q'):=
 h.mono fun _ _ q=>q.mono a
theorem fD.ends {p:gL→ag→Prop}(t:∀ r S,Qf r S→p r S):∀ {k:cH} {A:(gL→dr→ag→Prop)→Prop},(∀ Q Q', (∀ r cm S,Q r cm S→Q' r cm S)→A Q→A Q')→fD P Qf k A→fD P p k A:=by
 intro k
 induction k with
 | nil=>intro A j h;exact j _ _ (fun r _ S q=>t r S q) h
 | hole G=>intro A j h;exact j _ _ (fun r _ S q=>q) h
 | call fn F o all rest td next m=>intro A j h;exact m (fun Q Q' n=>j _ _ fun r cm S q=>q.cons n) h
 | rW fn F ds next m=>intro A j h;exact m (fun Q Q' n=>j _ _ fun r cm S q=>q.cons n) h
 | loop fn F d l td next m=>intro A j h;exact m (fun Q Q' n=>j _ _ fun r cm S q=>q.cons n) h
 | round fn F o all rest td id next m=>intro A j h;exact m (fun Q Q' n=>j _ _ fun r cm S q=>q.cons n) h
 | fU D o os E pi bE y next m=>
   intro A j h
   obtain⟨v,u,a,b⟩:=h
   exact⟨v,u,a,m (fun Q Q' n q w S0 x=>(q w S0 x).cons n) b⟩
theorem fD.all {ι:Type}:∀ {k:cH} {A:ι→(gL→dr→ag→Prop)→Prop},flat k=true→(∀ i,fD P Qf k (A i))→fD P Qf k fun Q=>∀ i,A i Q:=by
 intro k
 induction k with
 | nil=>intro A _ h;exact h
 | hole G=>intro A _ h;exact h
 | call fn F o all rest td next a=>intro A hf h;exact a (A:=fun i Q=>A i _) hf h
 | rW fn F ds next a=>intro A hf h;exact a (A:=fun i Q=>A i _) hf h
 | loop fn F d l td next a=>intro A hf h;exact a (A:=fun i Q=>A i _) hf h
 | round fn F o all rest td id next a=>intro A hf h;exact a (A:=fun i Q=>A i _) hf h
 | fU D o os E pi bE j next a=>simp_all[flat]
variable {r : gL} {cm : dr}
theorem FM (h:br P Qf (back r cm S k)):fD P Qf k fun Q=>Q r cm S:=by
 cases k with
 | nil=>exact h
 | hole G=>exact h.elim
 | call fn F o all rest td next=>
   simp only[back,AS] at h
   exact h
 | rW fn F ds next=>exact h
 | loop fn F d l td next=>exact h
 | round fn F o all rest td id next=>
   cases r with
   | ret v=>exact h.elim
   | wh l=>simp only[back,AS] at h;exact h
 | fU D o os E pi bE a next=>
   cases a with
   | some id=>exact h.elim
   | none=>
     cases r with
     | wh l=>exact h.elim
     | ret v=>exact⟨v,S,⟨rfl,rfl⟩,h⟩
variable {id : Nat}
theorem Ym (h:mI k=some id):back r cm S k=back r .run S k:=by
 cases k with
 | nil=>simp[mI] at h
 | hole G=>simp[mI] at h
 | call fn F o all rest td next=>simp[mI] at h
 | rW fn F ds next=>simp[mI] at h
 | loop fn F d l td next=>simp[mI] at h
 | round fn F o all rest td id next=>cases r<;>rfl
 | fU D o os E pi bE a next=>
   cases a with
   | none=>simp[mI] at h
   | some id=>rfl
variable {v : AV}
theorem Vt (h:mI k=some id)(hs:br P Qf (back (.ret v) cm S k)):False:=by
 cases k with
 | nil=>simp[mI] at h
 | hole G=>simp[mI] at h
 | call fn F o all rest td next=>simp[mI] at h
 | rW fn F ds next=>simp[mI] at h
 | loop fn F d l td next=>simp[mI] at h
 | round fn F o all rest td id next=>exact hs
 | fU D o os E pi bE a next=>
   cases a with
   | none=>simp[mI] at h
   | some id=>exact hs
theorem GK.fin (a:mI k=none)(h:∀ G,k ≠ .hole G):GK P k fn Q=Fin P fn Q:=by
 unfold GK
 simp_all
theorem Vu {m:dr}(j:F.mode=m)(n:F.defers=[])(h:br P Qf (W2 P fn F S k m)):br P Qf (.run fn F S k):=by
 cases m with
 | run=>exact h.elim
 | returning=>
   simp only[W2,agp] at h
   cases p:uQ P fn F S with
   | none=>rw[p] at h;exact h.elim
   | some v=>
     rw[p] at h
     cases a:mI k with
     | some id=>exact(Vt a h).elim
     | none=>
       have t:∀ G,k ≠ .hole G:=by rintro G rfl;exact h.elim
       refine fD.mono (fun Q q=>Reach.done ?_) (FM h)
       rw[GK.fin a t]
       exact⟨n,.inl ⟨j,v,p,q⟩⟩
 | panicking l=>
   simp only[W2] at h
   cases a:mI k with
   | none=>
     have t:∀ G,k ≠ .hole G:=by rintro G rfl;exact h.elim
     refine fD.mono (fun Q q=>Reach.done ?_) (FM h)
     rw[GK.fin a t]
     exact⟨n,.inr ⟨l,j,q⟩⟩
   | some id=>
     rw[Ym a] at h
     refine fD.mono (fun Q q=>Reach.done ?_) (FM h)
     simp only[GK,a]
     exact⟨n,.inr ⟨l,j,q⟩⟩
theorem LZ (n:di T P)(m:F.mode ≠ .run){ds:List hU}(a:F.defers=ds)(h:br P Qf (W3 T P fn F S k ds)):br P Qf (.run fn F S k):=by
 cases ds with
 | nil=>exact Vu rfl a h
 | cons d ds=>
   cases d with
   | call f cap args=>
     simp only[W3,agq] at h
     cases j:FT.look T f with
     | none=>rw[j] at h;exact h.elim
     | some e=>
       rw[j] at h
       obtain⟨t1,t2,_,_⟩:=n f e j
       refine fD.mono (fun Q q=>?_) h
       exact Reach.unwind (Q:=fun r cm S' => Reach P { F with defers:=ds,mode:=jd r cm } S' (GK P k fn Q)) m a (ajZ.qu e.mask t1 t2 q) fun r cm S' q=>q
   | nq id=>
     simp only[W3,Zy] at h
     split at h
     · rename_i p t
       exact br.reach (fun G q=>Reach.nq m a p (gb t) q) h
     · exact h.elim
   | uJ bs=>exact h.elim
variable {op : Op} {c : Call}
theorem Dr (h:gO op=some c):op=.call c∧∀ b,c.callee ≠ .builtin b:=by
 cases op with
 | call c' =>
   simp only[gO] at h
   split at h<;>simp only[ba,reduceCtorEq] at h
   simp_all
 | _=>simp[gO] at h
theorem fB (h:gO op=some c):ct op=false:=by
 obtain⟨rfl,hb⟩:=Dr h
 simp_all[ct]
variable {g : Nat} {e : Am} {args : List AV}
theorem kO (q:di T P)(w:gO op=some c)(h:so T F c P=some (g,e,args)) :
   FT.look T g=some e∧∀ S,gJ P F.eval S op=some (.call g args):=by
 obtain⟨rfl,hb⟩:=Dr w
 unfold so at h
 split at h<;>try (simp at h;done)
 rename_i as has
 split at h
 · rename_i f hf
   split at h<;>try (simp at h;done)
   rotate_left
   · rename_i y _ j
     split at h<;>try (simp at h;done)
     rename_i g' l n
     split at h<;>simp only[ba,lR,reduceCtorEq] at h
     rename_i u a
     obtain⟨rfl,rfl,rfl⟩:=h
     refine⟨a,fun S=>?_⟩
     obtain⟨m,t,v,first,cap,rfl,x,z,rfl⟩:=Dm n
     simp only[gJ,xo,has,hf,j,n]
   rename_i g' first cap j
   split at h<;>simp only[ba,lR,reduceCtorEq] at h
   rename_i u a
   obtain⟨rfl,rfl,rfl⟩:=h
   exact⟨a,fun S=>by simp only[gJ,xo,has,hf,j,(q _ _ a).2.2.1]⟩
 · rename_i r m hf
   split at h<;>try (simp at h;done)
   rename_i t v p
   split at h<;>try (simp at h;done)
   rename_i g' b n
   split at h<;>simp only[ba,lR,reduceCtorEq] at h
   rename_i u a
   obtain⟨rfl,rfl,rfl⟩:=h
   exact⟨a,fun S=>by simp only[gJ,xo,has,hf,p,n,(q _ _ a).2.2.1]⟩
 · simp at h
section
variable {fn : Func} {F : ae} {S : ag} {k : cH} {all : Array Oper} {i : Nat} {rest : List Nat} {td : List bg} {o : Oper}
variable {G : ae → ag → Prop} {l : List (AV × ag)}
theorem Reach.JS (I:F.mode=.run)(J:F.todo=.ops all (i::rest)::td)(n:all[i]? = some o)(K:tx F all o=some true)(p:ct o.op=false)(j:Fp F S o.op=some l)(h:∀ v S', (v,S')∈l→Reach P (F.after o v all rest td) S' G):Reach P F S G:=by
 unfold Fp at j
 split at j<;>try (simp at j;done)
 rename_i L hop
 split at j<;>try (simp at j;done)
 rename_i a ha
 intro g w fr q cs hf u hi
 obtain⟨m,C,M⟩:=hf.split J n
 obtain⟨r,S', z,w', N,q2,q3,q4,O⟩:=MB (P:=P) (t:=o.type) hi j (Ld.of hf L a ha)
 have x:(execOp fr.eval o).run P w=.ok (.value z) w' := by
  simp_all[execOp]
 obtain⟨H,R,U,V⟩:=F.iO o r all rest td
 have y:=AQ (P:=P) (cs:=cs) (gQ (hf.runs I) C n (lv hf K) (.inr p)) x
 obtain⟨F2,W,X,Y,A,B,Z,r1,r2,r3,r4,r5,r6,r7,r8⟩:=h r S' N g w' (fr.finish z) q cs ((hf.after C M n q3)) (u.congr H V) q4
 exact⟨F2,W,X,Y,A,B,Z,r1,r2,r3.trans H,r4.trans R,r5.trans U,r6,O.trans r7,Steps.head y r8⟩
theorem R2 (h:(v,S')∈l):(nA F o v all rest td,S')∈T8 F o all rest td l:=by
 induction l with
 | nil=>simp at h
 | cons p r j=>
   obtain⟨a,b⟩:=p
   rcases cF.1 h with e | h
   · simp only[lR] at e;obtain⟨rfl,rfl⟩:=e;exact jq ..
   · exact Ez _ (j h)
theorem R3 (u:F.mode=.run)(w:F.todo=.ops all (i::rest)::td)(x:all[i]? = some o)(y:tx F all o=some true)(t:ct o.op=false)
   (h:br P Qf (T9 fn F k o all rest td (Fp F S o.op))):br P Qf (.run fn F S k):=by
 cases n:Fp F S o.op with
 | none=>rw[n] at h;exact h.elim
 | some l=>
   rw[n] at h
   have a:br P Qf (UC fn F k o all rest td l (flat k))→br P Qf (.run fn F S k):=by
     intro h
     cases m:flat k with
     | false=>rw[m] at h;exact h.elim
     | true=>
       rw[m] at h
       have:=fD.all (ι:={ p:AV×ag // p∈l }) (A:=fun p Q=>Reach P (F.after o p.1.1 all rest td) p.1.2 (GK P k fn Q)) m fun p=>by
        have:=h _ _ (R2 (F:=F) (o:=o) (all:=all) (rest:=rest) (td:=td) p.2)
        rw[gz] at this
        exact this
       exact fD.mono (fun Q q=>Reach.JS u w x y t n fun v S' j=>q ⟨(v,S'),j⟩) this
   match l,a,h,n with
   | [],a,h,_=>exact a h
   | [(v,S')],_,h,n=>
     simp only[T9,gz] at h
     refine br.reach (fun G q=>Reach.JS u w x y t n fun v' z j=>?_) h
     simp only[px,lR] at j
     simp_all
   | _::_::_,a,h,_=>exact a h
theorem Vv (x:di T P)(j:F.mode=.run)(m:F.todo=.ops all (i::rest)::td)(p:all[i]? = some o)(t:tx F all o=some true)(a:ct o.op=false){r:Option dg}(ha:gJ P F.eval S o.op=r)
   (h:br P Qf (Tq T fn F S k o all rest td r)):br P Qf (.run fn F S k):=by
 cases r with
 | none=>exact R3 j m p t a h
 | some r=>
   cases r with
   | val v S' =>
     simp only[Tq,gz] at h
     exact br.reach (fun G q=>Reach.Oj j m p t a ha q) h
   | skip S' =>
     simp only[Tq,gz] at h
     exact br.reach (fun G q=>Reach.Qt j m p t a ha q) h
   | wh v=>exact br.reach (fun G q=>Reach.aeb j m p t a ha q) h
   | sj id args=>
     simp only[Tq,Zw] at h
     split at h
     · rename_i st w f n mask env params assign body u
       simp only[agl] at h
       split at h
       · rename_i e y z
         obtain⟨t1,_⟩:=x f e y
         refine fD.mono (fun Q q=>?_) h
         exact Reach.aeg j m p t a ha u (np z) t1 q
       · exact h.elim
     · exact h.elim
   | call f args=>exact h.elim
   | rW f cap args=>exact h.elim
   | ae7=>exact h.elim
theorem R4 (m:F.mode=.run)(n:F.todo=.ops all (i::rest)::td)(t:all[i]? = some o)(u:tx F all o=some true){r:Option dg}(ha:gJ P F.eval S o.op=r)
   (h:br P Qf (Qj fn F S k o all rest td F.round r)):br P Qf (.run fn F S k):=by
 cases j:F.round with
 | some id=>rw[j] at h;cases r with
   | none=>exact h.elim
   | some r=>cases r<;>exact h.elim
 | none=>
   rw[j] at h
   cases r with
   | none=>exact h.elim
   | some r=>
     cases r with
     | rW f cap args=>
       simp only[Qj,gz] at h
       exact br.reach (fun G q=>Reach.aec m n t u j ha q) h
     | ae7=>
       simp only[Qj] at h
       split at h
       · rename_i w
         cases a:uU F.cm with
         | none=>
           rw[a] at h
           simp only[aah,gz] at h
           exact br.reach (fun G q=>Reach.Uv m n t u w j ha (by rw[a];exact q)) h
         | some p=>
           obtain⟨v,cm⟩:=p
           rw[a] at h
           simp only[aah,gz] at h
           exact br.reach (fun G q=>Reach.Uv m n t u w j ha (by rw[a];exact q)) h
       · exact h.elim
     | _=>exact h.elim
variable {b : Bool}
theorem QA (q:di T P)(j:F.mode=.run)(m:F.todo=.ops all (i::rest)::td)(n:all[i]? = some o)(p:tx F all o=some true)(a:ct o.op=b)(h:br P Qf (afy T P fn F S k o all rest td b)):br P Qf (.run fn F S k):=by
 cases b with
 | false=>simp only[afy,nf] at h;exact Vv q j m n p a rfl h
 | true=>simp only[afy,nf] at h;exact R4 j m n p rfl h
theorem R5 {rest:List Nat}(m:F.mode=.run)(j:F.todo=.ops all (i::rest)::td)(x:all[i]? = none)(h:br P Qf (Ua fn F S k all td rest)):br P Qf (.run fn F S k):=by
 unfold Ua at h
 split at h
 · rename_i y wm sm
   unfold UE at h
   split at h
   · rename_i h1 h2 h3
     refine fD.mono (fun Q q=>?_) h
     by_cases e:i=all.size
     · subst e
       exact q F S ⟨_,_,_,_,DI.again h1 (gb h2) m j rfl rfl rfl rfl (gb h3) rfl rfl⟩
     · intro g w fr t cs hf
       exfalso
       have a:=hf.todo
       rw[j] at a
       generalize fr.todo=u at a
       cases a with | cons n a2=>?_
       cases n with | ops p=>?_
       cases p<;>simp_all
   · exact h.elim
 · exact h.elim
theorem Vw (u:di T P)(n:F.mode=.run)(t:F.todo=.ops all (i::rest)::td)(h:br P Qf (aai T P fn F S k all rest td (N6 all i))):br P Qf (.run fn F S k):=by
 rw[tI] at h
 cases a:all[i]? with
 | none=>rw[a] at h;exact R5 n t a h
 | some o=>
   rw[a] at h
   simp only[aai] at h
   cases m:tx F all o with
   | none=>rw[m] at h;exact h.elim
   | some b=>
     rw[m] at h
     cases b with
     | false=>
       simp only[Ov,gz] at h
       exact br.reach (fun G q=>Reach.FK n t a m q) h
     | true=>
       simp only[Ov] at h
       cases w:gO o.op with
       | none=>rw[w] at h;exact QA u n t a m rfl h
       | some c=>
         rw[w] at h
         have j:=fB w
         simp only[agn] at h
         cases y:so T F c P with
         | none=>rw[y] at h;exact QA u n t a m j h
         | some p=>
           obtain⟨g,e,args⟩:=p
           rw[y] at h
           obtain⟨A,q2⟩:=kO u w y
           obtain⟨t1,t2,t3,t4⟩:=u g e A
           simp only[Zx] at h
           cases hx:e.ext with
           | none=>
             rw[hx] at h
             refine fD.mono (fun Q q=>?_) h
             exact Reach.x9 (Q:=fun r S' => Reach P (F.back o all rest td r) S' (GK P k fn Q)) n t a m j (q2 S) (fY.qu e.mask t1 t2 q) fun r S' q=>q
           | some x=>
             rw[hx] at h
             simp only[UD] at h
             cases z:x args S with
             | none=>
               rw[z] at h
               refine fD.mono (fun Q q=>?_) h
               exact Reach.x9 (Q:=fun r S' => Reach P (F.back o all rest td r) S' (GK P k fn Q)) n t a m j (q2 S) (fY.qu e.mask t1 t2 q) fun r S' q=>q
             | some p=>
               obtain⟨v,S'⟩:=p
               rw[z] at h
               simp only[agm,gz] at h
               refine br.reach (fun G q=>Reach.x9 n t a m j (q2 S) (t4 x hx args S v S' z) fun r C B=>?_) h
               obtain⟨rfl,rfl⟩:=B
               exact q
end
theorem R6 (h:br P Qf (LL S k v)):fD P Qf k fun Q=>Q (.ret v) .run S:=by
 cases k with
 | round fn F o all rest td id next=>simp only[LL,AS] at h;exact h
 | fU D o os E pi bE a next=>
   cases a with
   | none=>exact h.elim
   | some id=>exact⟨v,S,⟨rfl,rfl⟩,h⟩
 | _=>exact h.elim
theorem Vx (w:F.mode=.run)(h:br P Qf (T6 F S k (mI k))):br P Qf (.run fn F S k):=by
 cases x:mI k with
 | none=>rw[x] at h;exact h.elim
 | some id=>
   rw[x] at h
   simp only[T6,agk] at h
   split at h
   · rename_i st m f n mask env params assign body y z p
     have p:=gb p
     have fin:∀(v:AV) (t:ag),(∀ Q:gL→dr→ag→Prop,Q (.ret v) .run t→Ll id F S fun r u=>Q r .run u)→br P Qf (LL t k v)→br P Qf (.run fn F S k):=by
       intro v t B hs
       refine fD.mono (fun Q q=>Reach.done ?_) (R6 hs)
       simp_all[GK]
     cases j:F.todo with
     | nil=>
       rw[j] at h
       exact fin _ _ (fun Q q=>⟨y,.inl ⟨w,st,m,f,n,mask,env,params,assign,body,z,p,.inl ⟨j,q⟩⟩⟩) h
     | cons A r=>
       rw[j] at h
       cases a:C4 (A::r) with
       | none=>rw[a] at h;exact h.elim
       | some c=>
         rw[a] at h
         exact fin _ _ (fun Q q=>⟨y,.inl ⟨w,st,m,f,n,mask,env,params,assign,body,z,p,.inr ⟨c,by rw[j];exact a,q⟩⟩⟩) h
   · exact h.elim
variable {td : List bg}
theorem Yn (j:di T P)(m:F.mode=.run){f:Operand}{params:Array Tmp}{assign body:Code}(n:F.todo=.code (.rangeFunc f params assign body)::td)(h:br P Qf (akC T fn F S k params assign body td F.round (F.eval f))):br P Qf (.run fn F S k):=by
 cases a:F.round with
 | some id=>rw[a] at h;exact h.elim
 | none=>
   rw[a] at h
   cases hf:F.eval f with
   | none=>rw[hf] at h;exact h.elim
   | some v=>
     rw[hf] at h
     cases v with
     | fn g first cap=>
       cases g with
       | func g=>
         simp only[akC] at h
         split at h
         · rename_i e p h1 h2
           obtain⟨t1,t2,t3,_⟩:=j g e p
           have h1:=gb h1
           refine fD.mono (fun Q q=>?_) h
           exact Reach.rangeFunc (Q:=fun r S' => Reach P (F.qI S.nx (S.nx+1) td r) S' (GK P k fn Q)) m n a hf t3 (by omega) (gb h2) (fY.qu e.mask t1 t2 q) fun r S' q=>q
         · exact h.elim
       | _=>exact h.elim
     | _=>exact h.elim
variable {G : ae → ag → Prop}
theorem Reach.inst (h:∀ g w fr,m8 P g F fr→Inv S g w→Reach P F S G):Reach P F S G:=
 fun g w fr j cs a b c=>h g w fr a c g w fr j cs a b c
theorem Vy (a:F.mode=.run){all:Array Oper}(j:F.todo=.code (.region id all true)::td)(h:br P Qf (aag T fn F S k id all td)):br P Qf (.run fn F S k):=by
 simp only[aag] at h
 cases h1:C5 all with
 | false=>rw[h1] at h;exact h.elim
 | true=>
   cases h2:Nat.ble S.lim S.nx with
   | false=>rw[h1,h2] at h;exact h.elim
   | true=>
     rw[h1,h2] at h
     refine fD.mono (fun Q q=>?_) h
     exact q F S ⟨_,_,_,_,DI.start h1 (gb h2) a j rfl rfl rfl rfl rfl rfl⟩
theorem R7 (u:di T P)(a:F.mode=.run){l:List bg}(m:F.todo=l)(h:br P Qf (T7 T fn F S k l)):br P Qf (.run fn F S k):=by
 unfold T7 at h
 split at h
 · exact Yn u a m h
 · exact Vy a m h
 · rename_i id td
   unfold agi at h
   split at h
   · rename_i st j f n mask env params assign body p
     split at h
     · rename_i h1 h2
       exact br.reach (fun G q=>Reach.n9 a m p h1 (gb h2) q) h
     · exact h.elim
   · exact h.elim
 · rename_i td
   cases t:F.round with
   | none=>rw[t] at h;exact h.elim
   | some id=>
     rw[t] at h
     simp only[Zv,agj] at h
     split at h
     · rename_i j f n mask env params assign body p
       split at h
       · rename_i h2
         exact br.reach (fun G q=>Reach.N0 a m t p (gb h2) q) h
       · exact h.elim
     · exact h.elim
 · exact Vx a h
theorem Yo (m:di T P)(h:br P Qf (akD T P fn F S k F.mode)):br P Qf (.run fn F S k):=by
 cases j:F.mode with
 | run=>
   rw[j] at h
   simp only[akD] at h
   have ae8:br P Qf (ago T fn F S k (Ro F F.todo))→br P Qf (.run fn F S k):=by
     intro h
     cases n:Ro F F.todo with
     | some F' =>
       rw[n] at h
       rw[Qw j] at n
       exact br.reach (fun G q=>Reach.ae8 n (O5 10 q)) h
     | none=>rw[n] at h;exact R7 m j rfl h
   cases a:F.todo with
   | nil=>rw[a] at h;exact ae8 (by rw[a];exact h)
   | cons p r=>
     rw[a] at h
     cases p with
     | ops all l=>
       cases l with
       | nil=>exact ae8 (by rw[a];exact h)
       | cons i rest=>exact Vw m j a h
     | _=>exact ae8 (by rw[a];exact h)
 | returning=>rw[j] at h;exact LZ m (by rw[j];simp) rfl h
 | panicking l=>rw[j] at h;exact LZ m (by rw[j];simp) rfl h
theorem qJ.step {D m:rX}{o:Oper}{os:List Oper}(u:qJ P m k Q)(x:D.os=o::os)(n:m.fn=D.fn)(h:∀ a S0 E j v ch,DI P a S0 D E j v ch→(∀ id o,S0.get id=some o→id<S0.nx) →
  (∀ En vn En', n7 P D.ops o D.F.get En vn En' → En.nx=D.S.nx→(∀ id ob,En.get id=some ob→D.S.get id=some ob)→Qk En En')→∃ E j v ch,DI P a S0 m E j v ch):qJ P D k Q:=by
 intro a S0 ⟨E,j,v,ch,t⟩
 refine Reach.inst fun g w fr hf hi=>?_
 rw[←n]
 exact u a S0 (h a S0 E j v ch t (fun id o e=>hi.lU e) fun En vn En' p y q=>t.facts hf hi x p y q)
section
variable {D : rX} {k : cH} {o : Oper} {os : List Oper}
theorem IJ (n:D.os=o::os)(t:tx D.F D.ops o=some false)(h:br P Qf (.fU (D.next o os (ay D.dt o.after.toList) (.bO []) D.S.nx [] none) k)):br P Qf (.fU D k):=by
 refine fD.mono (fun Q q=>?_) h
 refine qJ.step q n rfl (fun u S0 E w v ch p x y=>?_)
 have j:∀ id,(⟨D.S.nx,D.S.nx,.nil⟩:ag).get id=none:=by
  simp_all[ag.cE,PT.get_nil]
 have a:∀ {id ob},(⟨D.S.nx,D.S.nx,.nil⟩:ag).get id=some ob→False:=by simp_all
 have m:n7 P D.ops o D.F.get ⟨D.S.nx,D.S.nx,.nil⟩ (.bO []) ⟨D.S.nx,D.S.nx,.nil⟩:=n7.FK t
 exact p.next n (En:=⟨D.S.nx,D.S.nx,.nil⟩) (En' := ⟨D.S.nx,D.S.nx,.nil⟩) m rfl (bJ _) p.UF (fun id ob e=>(a e).elim) (fun id e=>by simp[qW] at e) (fun id ob e=>by simp at e) (fun id ob e=>(a e).elim)
  (fun id e=>by simp[qW] at e) (.inr ⟨rfl,j⟩)
variable {E : ag} {s : St}
theorem xw (B:D.os=o::os)(C:tx D.F D.ops o=some true)(n:ct o.op=false){ids:List Nat}{BY:Option ag}(h:w7 D o os (ay D.dt o.after.toList) k E ids BY (gJ P D.F.eval E o.op)=some s)(p:E.nx=D.S.nx)(u:E.lim=D.S.lim∨E.lim=D.S.nx)(m:∀ id ob,E.get id=some ob→D.S.get id=some ob∧jl (ay D.dt o.after.toList) D.kx id=true)(w:∀ id ob,E.get id=some ob→E.lim≤id→id<E.nx→id∈ids)(x:∀ id,id∈ids→E.lim≤id)(z:∀ id,id∈ids→id<D.S.nx→sJ (ay D.dt o.after.toList) D.es id=true)(A:BY=some E∨(BY=none∧∀ id,E.get id=none))(hs:br P Qf s):br P Qf (.fU D k):=by
 have H:∀(v:AV) (j:ag),n7 P D.ops o D.F.get E v j→br P Qf (.fU (D.next o os (ay D.dt o.after.toList) v j.nx (od E j ids++sU j E.nx (j.nx-E.nx)) BY) k)→br P Qf (.fU D k):=by
   intro v j t hs
   refine fD.mono (fun Q q=>?_) hs
   refine qJ.step q B rfl (fun N S0 E0 M v0 ch I J K=>?_)
   have L:=K E v j t p fun id ob e=>(m id ob e).1
   exact I.news J B t L p u (fun id ob e=>⟨(m id ob e).1,I.clear (m id ob e).2⟩) w (fun id a _=>x id a) (fun id a _=>z id a) (fun id ob e=>by
     obtain⟨a,_,b,c⟩:=vO e;exact⟨a,b,c⟩) A
 cases y:gJ P D.F.eval E o.op with
 | none=>rw[y] at h;simp[w7] at h
 | some r=>
   rw[y] at h
   cases r with
   | val v j=>
     simp only[w7,ba] at h
     subst h
     exact H v j (n7.val C n y) hs
   | skip j=>
     simp only[w7,ba] at h
     subst h
     exact H _ j (n7.skip C n y) hs
   | _=>simp[w7] at h
variable {lim : Nat}
theorem pH : ∀ {l:List Nat},id∈oe lim l↔id∈l∧lim≤id:=by
 intro l
 induction l with
 | nil=>simp[oe]
 | cons a r j=>
   simp only[oe]
   split
   · rename_i h
     have h:=gb h
     rw[cF,j,cF]
     constructor
     · rintro(rfl | ⟨x,y⟩)
       all_goals simp_all
     all_goals simp_all
   · rename_i h
     have h:¬ lim≤a:=fun e=>by rw[EY e] at h;simp at h
     rw[j,cF]
     constructor
     · simp_all
     · rintro⟨rfl | x,y⟩
       · exact absurd y h
       · exact⟨x,y⟩
theorem AA (nx lim id:Nat):(⟨nx,lim,.nil⟩:ag).get id=none:=by
 by_cases h:Ok id
 · rw[ag.cE h];exact PT.get_nil _ _
 · omega
theorem Yp (p:D.os=o::os)(h:br P Qf (akB P D o os (ay D.dt o.after.toList) k (tx D.F D.ops o))):br P Qf (.fU D k):=by
 cases n:tx D.F D.ops o with
 | none=>rw[n] at h;exact h.elim
 | some b=>
   rw[n] at h
   cases b with
   | false=>exact IJ p n h
   | true=>
     simp only[akB] at h
     cases j:ct o.op with
     | true=>rw[j] at h;exact h.elim
     | false=>
       rw[j] at h
       simp only[age,nf] at h
       cases t:w7 D o os (ay D.dt o.after.toList) k ⟨D.S.nx,D.S.nx,.nil⟩ [] none (gJ P D.F.eval ⟨D.S.nx,D.S.nx,.nil⟩ o.op) with
       | some s=>
         rw[t] at h
         exact xw p n j t rfl (.inr rfl) (fun id ob e=>by rw[AA] at e;simp at e) (fun id ob e=>by rw[AA] at e;simp at e) (fun id e=>by simp at e) (fun id e=>by simp at e) (.inr ⟨rfl,fun id=>AA _ _ id⟩) h
       | none=>
         rw[t] at h
         simp only[agc,agb,aga,nf] at h
         have a:∀ {nx lim id ob},(⟨nx,lim,seen D.S (ay D.dt o.after.toList) D.kx (iG D.F (iY o.op)) .nil⟩:ag).get id=some ob→id∈iG D.F (iY o.op)∧D.S.get id=some ob∧jl (ay D.dt o.after.toList) D.kx id=true:=by
           intro nx lim id ob e
           have hi:=ag.gv e
           rw[ag.cE hi] at e
           rcases AU hi e with q | q
           · rw[PT.get_nil] at q;simp at q
           · exact q
         generalize x:seen D.S (ay D.dt o.after.toList) D.kx (iG D.F (iY o.op)) .nil=m at *
         cases h1:w7 D o os (ay D.dt o.after.toList) k ⟨D.S.nx,D.S.nx,m⟩ [] (some ⟨D.S.nx,D.S.nx,m⟩) (gJ P D.F.eval ⟨D.S.nx,D.S.nx,m⟩ o.op) with
         | some s=>
           rw[h1] at h
           refine xw p n j h1 rfl (.inr rfl) (fun id ob e=>(a e).2) (fun id ob e h1 h2=>?_) (fun id e=>by simp at e) (fun id e=>by simp at e) (.inl rfl) h
           exact absurd h2 (Nat.not_lt.2 h1)
         | none=>
           rw[h1] at h
           simp only[Zt] at h
           cases hu:ke (ay D.dt o.after.toList) D.es D.S.nx (oe D.S.lim (iG D.F (iY o.op))) with
           | false=>rw[hu] at h;exact h.elim
           | true=>
             rw[hu] at h
             simp only[af9,nf] at h
             cases h2:w7 D o os (ay D.dt o.after.toList) k ⟨D.S.nx,D.S.lim,m⟩ (oe D.S.lim (iG D.F (iY o.op))) (some ⟨D.S.nx,D.S.lim,m⟩) (gJ P D.F.eval ⟨D.S.nx,D.S.lim,m⟩ o.op) with
             | none=>rw[h2] at h;exact h.elim
             | some s=>
               rw[h2] at h
               exact xw p n j h2 rfl (.inl rfl) (fun id ob e=>(a e).2) (fun id ob e w _=>pH.2 ⟨(a e).1,w⟩) (fun id e=>(pH.1 e).2) (fun id e u=>qy hu id e u) (.inl rfl) h
theorem Gb (E:ag)(pi:Nat)(v:AV)(S:ag):D.jB o os E pi .quiet v S=D.next o os pi v S.nx (Rp S E.nx v) (some E):=rfl
theorem Vz (E:ag)(pi:Nat)(ids:List Nat)(v:AV)(S:ag):D.jB o os E pi (.sep ids) v S=D.next o os pi v S.nx (od E S ids++mN S E.nx xf (v::kids S ids) []) (some E):=rfl
theorem IK (E:ag)(pi:Nat)(bE:List Nat)(v:AV)(S:ag):D.jB o os E pi (.wide bE) v S=D.T4 o os E pi bE v S:=rfl
theorem AB (E:ag)(pi:Nat)(m:DM)(v:AV)(S:ag):(D.jB o os E pi m v S).fn=D.fn:=by cases m<;>rfl
variable {pi : Nat}
theorem zM (n:di T P)(q:FT.look T g=some e){bE:DM}(h:br P Qf (Cc g e args E (.fU D o os E pi bE none k))) :
   ∃ v j,fY P g args E (fun r S=>r=.ret v∧S=j)∧fD P Qf k fun Q=>qJ P (D.jB o os E pi bE v j) k Q:=by
 obtain⟨t1,t2,t3,t4⟩:=n g e q
 unfold Cc at h
 cases hx:e.ext with
 | none=>
   rw[hx] at h
   obtain⟨v,j,a,b⟩:=h
   exact⟨v,j,fY.qu e.mask t1 t2 a,b⟩
 | some x=>
   rw[hx] at h
   simp only at h
   cases m:x args E with
   | none=>
     rw[m] at h
     obtain⟨v,j,a,b⟩:=h
     exact⟨v,j,fY.qu e.mask t1 t2 a,b⟩
   | some p=>
     obtain⟨v,S'⟩:=p
     rw[m] at h
     exact⟨v,S', t4 x hx args E v S' m,h⟩
theorem Pc {kx:List (Nat×Le)}{ob:Option aO}:∀ {c:xZ},(id,ob)∈Cb pi kx c→(id,ob)∈c∧jl pi kx id=true:=by
 intro c
 induction c with
 | nil=>intro h;simp[Cb] at h
 | cons p r a=>
   obtain⟨k,x⟩:=p
   intro h
   simp only[Cb] at h
   split at h
   · rename_i j
     rcases cF.1 h with e | h
     all_goals simp_all
   all_goals simp_all
theorem IL : ∀ {c:xZ},id∈ze lim c↔qW c id=true∧lim≤id:=by
 intro c
 induction c with
 | nil=>simp[ze,qW]
 | cons p r a=>
   obtain⟨k,x⟩:=p
   simp only[ze,qW]
   cases hb:Nat.beq k id with
   | true=>
     have:k=id:=np hb
     subst this
     split
     · simp_all
     · rename_i h
       have h:¬ lim≤k:=fun e=>by rw[EY e] at h;simp at h
       rw[a];simp[h]
   | false=>
     have j:id≠k:=by rintro rfl;simp_all
     split
     all_goals simp_all
variable {b : Bool} {bE : List Nat}
theorem Pd (t:di T P)(n:D.os=o::os)(u:tx D.F D.ops o=some true)(j:ct o.op=false)(w:FT.look T g=some e)(ha:∀ S,gJ P D.F.eval S o.op=some (.call g args))(hh:hidden (ay D.dt o.after.toList) D.kx=some bE)(hb:C6 (ay D.dt o.after.toList) D.es=b)(h:br P Qf (Oq D o os (ay D.dt o.after.toList) k g e args bE b)):br P Qf (.fU D k):=by
 cases b with
 | false=>exact h.elim
 | true=>
   simp only[Oq] at h
   obtain⟨v,x,y,hs⟩:=zM t w h
   refine fD.mono (fun Q q=>?_) hs
   refine qJ.step q n (AB ..) (fun C S0 E0 B v0 ch p z A=>?_)
   have a:n7 P D.ops o D.F.get ⟨D.S.nx,D.S.lim,jA D.S.m bE⟩ v x:=n7.call u j (ha _) y
   rw[IK]
   exact p.wide z n hh hb a (A _ _ _ a rfl fun id ob e=>by
    rw[(p.bE hh).2.2] at e
    split at e
    · simp at e
    · exact e)
theorem Pe (B:di T P)(z:D.os=o::os)(C:tx D.F D.ops o=some true)(t:ct o.op=false)(H:FT.look T g=some e)(ha:∀ S,gJ P D.F.eval S o.op=some (.call g args)){c:xZ}(hu:ke (ay D.dt o.after.toList) D.es D.S.nx (ze D.S.lim c)=b)(u:∀ id ob,(id,ob)∈c→D.S.get id≠none∧ob=D.S.get id∧jl (ay D.dt o.after.toList) D.kx id=true)(h:br P Qf (Oo D o os (ay D.dt o.after.toList) k g e args c (ze D.S.lim c) b)):br P Qf (.fU D k):=by
 cases b with
 | false=>exact h.elim
 | true=>
   simp only[Oo] at h
   obtain⟨v,n,I,hs⟩:=zM B H h
   have w:∀ id ob,(id,ob)∈c→Ok id:=by
    simp_all
   have j:∀ id ob,(⟨D.S.nx,D.S.lim,uk .nil c⟩:ag).get id=some ob→qW c id=true∧D.S.get id=some ob∧jl (ay D.dt o.after.toList) D.kx id=true:=by
    intro id ob e
    have hi:=ag.gv e
    rw[ag.cE hi] at e
    have e:PT.get dep (uk .nil c) id=some ob:=e
    cases p:qW c id with
    | false=>simp_all[uW,PT.get_nil]
    | true=>
      obtain⟨ob', J,q2⟩:=EI (m:=.nil) hi w p
      rw[q2] at e
      obtain⟨_,b,c'⟩:=u id ob' J
      simp_all
   refine fD.mono (fun Q q=>?_) hs
   refine qJ.step q z (AB ..) (fun O S0 E0 N v0 ch A K L=>?_)
   have a:n7 P D.ops o D.F.get ⟨D.S.nx,D.S.lim,uk .nil c⟩ v n:=n7.call C t (ha _) I
   have M:=L _ _ _ a rfl fun id ob e=>(j id ob e).2.1
   rw[Vz]
   generalize x:mN n (ag.nx ⟨D.S.nx,D.S.lim,uk .nil c⟩) xf (v::kids n (ze D.S.lim c)) []=nw
   exact A.news K z a M rfl (.inl rfl) (fun id ob e=>⟨(j id ob e).2.1,A.clear (j id ob e).2.2⟩) (fun id ob e p _=>IL.2 ⟨(j id ob e).1,p⟩) (fun id e _=>(IL.1 e).2) (fun id e _ y=>qy hu id e y) (fun id ob e=>by
    rw[←x] at e
    rcases tl e with q | q
    · simp at q
    · exact q) (.inl rfl)
theorem Pf (z:di T P)(w:D.os=o::os)(A:tx D.F D.ops o=some true)(p:ct o.op=false)(B:FT.look T g=some e)(ha:∀ S,gJ P D.F.eval S o.op=some (.call g args))(hh:hidden (ay D.dt o.after.toList) D.kx=some bE)(h:br P Qf (Cc g e args ⟨D.S.nx,D.S.nx,jA D.S.m bE⟩ (.fU D o os ⟨D.S.nx,D.S.nx,jA D.S.m bE⟩ (ay D.dt o.after.toList) .quiet none k))):br P Qf (.fU D k):=by
 obtain⟨v,x,C,hs⟩:=zM z B h
 refine fD.mono (fun Q q=>?_) hs
 refine qJ.step q w (AB ..) (fun N S0 E0 L v0 ch y H I=>?_)
 have a:n7 P D.ops o D.F.get ⟨D.S.nx,D.S.nx,jA D.S.m bE⟩ v x:=n7.call A p (ha _) C
 obtain⟨_,t,M⟩:=y.bE hh
 have n:∀ id ob,(⟨D.S.nx,D.S.nx,jA D.S.m bE⟩:ag).get id=some ob→id∉bE∧D.S.get id=some ob:=by
  simp_all
 have J:=I _ _ _ a rfl fun id ob e=>(n id ob e).2
 rw[Gb]
 generalize u:Rp x (ag.nx ⟨D.S.nx,D.S.nx,jA D.S.m bE⟩) v=nw
 have:=y.news H w (ids:=[]) (nw:=nw) (Eo:=some ⟨D.S.nx,D.S.nx,jA D.S.m bE⟩) a J rfl (.inr rfl) (fun id ob e=>⟨(n id ob e).2,t id (n id ob e).1⟩) (fun id ob e K j=>absurd j (Nat.not_lt.2 K)) (fun id e _=>by simp at e) (fun id e _ j=>by simp at e)
  (fun id ob e=>by
   rw[←u] at e
   exact LX e) (.inl rfl)
 exact this
theorem R8 (m:di T P)(n:D.os=o::os)(p:tx D.F D.ops o=some true)(j:ct o.op=false)(t:FT.look T g=some e)(ha:∀ S,gJ P D.F.eval S o.op=some (.call g args))(h:br P Qf (Ot D o os (ay D.dt o.after.toList) k g e args (hidden (ay D.dt o.after.toList) D.kx))):br P Qf (.fU D k):=by
 cases hh:hidden (ay D.dt o.after.toList) D.kx with
 | none=>rw[hh] at h;exact h.elim
 | some bE=>
   rw[hh] at h
   simp only[Ot] at h
   cases u:tb D.wm D.i with
   | true=>rw[u] at h;exact Pd m n p j t ha hh rfl h
   | false=>
     rw[u] at h
     simp only at h
     cases w:tb D.sm D.i with
     | true=>
       rw[w] at h
       refine Pe m n p j t ha rfl (fun id ob e=>?_) h
       obtain⟨a,b⟩:=Pc e
       rcases tl a with q | ⟨_,x,q2⟩
       · simp at q
       · exact⟨x,q2,b⟩
     | false=>rw[w] at h;exact Pf m n p j t ha hh h
theorem VA (w:D.os=o::os)(z:tx D.F D.ops o=some true)(p:ct o.op=false)(h:br P Qf (aae T P D o os (ay D.dt o.after.toList) k)):br P Qf (.fU D k):=by
 unfold aae at h
 split at h
 · rename_i bE hh t
   simp only[nf] at h
   split at h
   · rename_i id args ha
     split at h
     · rename_i st y f n mask env params assign body u
       split at h
       · rename_i e J j
         obtain⟨v,A,B,hs⟩:=h
         refine fD.mono (fun Q q=>?_) hs
         refine qJ.step q w rfl (fun K S0 E0 I v0 ch x C H=>?_)
         have a:n7 P D.ops o D.F.get ⟨D.S.nx,D.S.lim,jA D.S.m bE⟩ v A:=n7.sj z p ha u (np j) B
         exact x.wide C w hh t a (H _ _ _ a rfl fun id ob e=>by
          rw[(x.bE hh).2.2] at e
          split at e
          · simp at e
          · exact e)
       · exact h.elim
     · exact h.elim
   · exact h.elim
 · exact h.elim
theorem Gc (a:P.follows .mixedOrders=true)(j:chain D.os D.i D.dt=true)(h:br P Qf (Ou D k)):br P Qf (.fU D k):=by
 refine fD.mono (fun Q q=>?_) h
 intro n S0 ⟨E,p,v,ch,m⟩
 exact m.jB a j q
theorem VB (a:P.follows .mixedOrders=true)(j:Ir D.os D.i D.dt=true)(h:br P Qf (agf D k)):br P Qf (.fU D k):=by
 refine fD.mono (fun Q q=>?_) h
 intro n S0 ⟨E,p,v,ch,m⟩
 exact m.cut a j q
theorem R9 (u:di T P)(a:P.follows .mixedOrders=true)(h:br P Qf (T5 T P D k D.os)):br P Qf (.fU D k):=by
 cases j:D.os with
 | nil=>rw[j] at h;exact Gc a (by rw[j];rfl) h
 | cons o os=>
   rw[j] at h
   simp only[T5] at h
   cases m:gO o.op with
   | none=>rw[m] at h;exact Yp j h
   | some c=>
     rw[m] at h
     simp only[agh] at h
     cases q:chain (o::os) D.i D.dt with
     | true=>rw[q] at h;exact Gc a (by rw[j];exact q) h
     | false=>
     rw[q] at h
     simp only[Uz] at h
     cases hu:Ir (o::os) D.i D.dt with
     | true=>rw[hu] at h;exact VB a (by rw[j];exact hu) h
     | false=>
     rw[hu] at h
     simp only[Uy,aaf] at h
     cases n:tx D.F D.ops o with
     | none=>rw[n] at h;exact h.elim
     | some b=>
       rw[n] at h
       cases b with
       | false=>exact IJ j n h
       | true=>
         simp only[Zu] at h
         cases t:so T D.F c P with
         | none=>rw[t] at h;exact VA j n (fB m) h
         | some p=>
           obtain⟨g,e,args⟩:=p
           rw[t] at h
           obtain⟨w,q2⟩:=kO u m t
           exact R8 u j n (fB m) w q2 h
end
variable {s : St}
theorem L0 (j:di T P)(a:P.follows .mixedOrders=true)(h:br P Qf (s.step T P)):br P Qf s:=by
 cases s with
 | run fn F S k=>exact Yo j h
 | fU D k=>exact R9 j a h
 | done r S=>exact h
 | fork fn k l=>exact h
 | bad n=>exact h
theorem EJ (j:di T P)(a:P.follows .mixedOrders=true):∀(d:Nat) {s:St},br P Qf (St.rep T P d s)→br P Qf s:=by
 intro d
 induction d with
 | zero=>intro s h;exact L0 j a h
 | succ d m=>
   intro s h
   refine m ?_
   simp only[St.rep] at h
   cases hs:St.rep T P d s<;>simp_all
theorem br.ends {j:gL→ag→Prop}(m:∀ r S,Qf r S→j r S){s:St}(h:br P Qf s):br P j s:=by
 cases s with
 | run fn F S k=>exact fD.ends m (fun Q Q' a q=>q.cons a) h
 | fU D k=>exact fD.ends m (fun Q Q' a q p S0 t=>(q p S0 t).cons a) h
 | done r S=>exact m r S h
 | fork fn k l=>exact fun F S u=>fD.ends m (fun Q Q' a q=>q.cons a) (h F S u)
 | bad n=>exact h
theorem Sa {l:List (ae×ag)}(h:(F,S)∈l):St.run fn F S k∈Ub fn k l:=by
 induction l with
 | nil=>simp at h
 | cons p r j=>
   obtain⟨a,b⟩:=p
   rcases cF.1 h with e | h
   · simp only[lR] at e;obtain⟨rfl,rfl⟩:=e;exact jq ..
   · exact Ez _ (j h)
def Ends (l:List (AV×ag)):gL→ag→Prop:=fun r S=>∃ v,r=.ret v∧(v,S)∈l
variable {d : Nat}
theorem VC (t:di T P)(j:P.follows .mixedOrders=true):∀ {n:Nat} {l:List St} {m:List (AV×ag)},St.outs T P d n l=some m→∀ s,s∈l→br P (Ends m) s:=by
 intro n
 induction n with
 | zero=>simp_all[St.outs]
 | succ n u=>
   intro l m h s hs
   cases l with
   | nil=>simp at hs
   | cons s0 r=>
     simp only[St.outs] at h
     split at h<;>try (simp at h;done)
     · rename_i v S p
       split at h<;>simp only[ba,reduceCtorEq] at h
       rename_i l' q
       subst h
       rcases cF.1 hs with rfl | hs
       · exact EJ t j d (by rw[p];exact⟨v,rfl,jq ..⟩)
       · exact br.ends (fun r S ⟨v,a,b⟩=>⟨v,a,Ez _ b⟩) (u q s hs)
     · rename_i fn k l' p
       have:=u h
       rcases cF.1 hs with rfl | hs
       · exact EJ t j d (by rw[p];exact fun F S w=>this _ (dG.2 (.inl (Sa w))))
       all_goals simp_all
variable {f : Nat}
theorem Pg (p:di T P)(j:P.follows .mixedOrders=true){n:Nat}{a:List (AV×ag)}(h:St.outs T P d n [St.start T f args S]=some a):fY P f args S (Ends a):=by
 have h1:=VC p j h _ (jq ..)
 unfold St.start at h1
 cases m:FT.look T f with
 | none=>rw[m] at h1;exact h1.elim
 | some e=>
   rw[m] at h1
   obtain⟨t1,t2,_,_⟩:=p f e m
   exact fY.qu e.mask t1 t2 h1
theorem St.sound (p:di T P)(j:P.follows .mixedOrders=true)(h:St.rep T P d (St.start T f args S)=.done r S'):fY P f args S fun m a=>m=r∧a=S' := by
 have h1:br P (fun m a=>m=r∧a=S') (St.start T f args S):=EJ p j d (by rw[h];exact⟨rfl,rfl⟩)
 unfold St.start at h1
 cases n:FT.look T f with
 | none=>rw[n] at h1;exact h1.elim
 | some e=>
   rw[n] at h1
   obtain⟨t1,t2,_,_⟩:=p f e n
   exact fY.qu e.mask t1 t2 h1
end
end
noncomputable section
def akE : Bool→Bool→Bool
 | true,true=>true
 | false,false=>true
 | _,_=>false
def akF : Value→Value→Bool
 | .bool a,.bool b=>akE a b
 | .int j a,.int k b=>match decide (j=k) with
   | true=>decide (a=b)
   | false=>false
 | .string a,.string b=>decide (a=b)
 | .pointer none,.pointer none=>true
 | .map none,.map none=>true
 | .nilFunc,.nilFunc=>true
 | .nilIface,.nilIface=>true
 | _,_=>false
theorem aem {a b:Bool}(h:akE a b=true):a=b:=by cases a<;>cases b<;>first | rfl | simp[akE] at h
theorem aen {a b:Value}(h:akF a b=true):a=b:=by
 unfold akF at h
 split at h<;>try (simp at h;done)
 · rw[aem h]
 · split at h
   all_goals simp_all
 all_goals simp_all
mutual
def uK : AV→AV→Bool
 | .sc a,.sc b=>akF a b
 | .agg a,.agg b=>WR a b
 | .fw,.fw=>true
 | .an,.an=>true
 | .lit a,.lit b=>WR a b
 | .dO a,.dO b=>WR a b
 | .bO a,.bO b=>WR a b
 | .eB t a,.eB u b=>match Nat.beq t u with
   | true=>uK a b
   | false=>false
 | .ptr a b c,.ptr x y z=>match Nat.beq a x,Nat.beq b y with
   | true,true=>Nat.beq c z
   | _,_=>false
 | .ai a b c,.ai x y z=>match Nat.beq a x,Nat.beq b y with
   | true,true=>Nat.beq c z
   | _,_=>false
 | .cR a,.cR b=>Nat.beq a b
 | .clip a,.clip b=>uK a b
 | _,_=>false
def WR : List AV→List AV→Bool
 | [],[]=>true
 | a::r,b::s=>match uK a b with
   | true=>WR r s
   | false=>false
 | _,_=>false
end
theorem DU {a b:Nat}(h:Nat.beq a b=true):a=b:=by simp_all
mutual
theorem EL : ∀(a b:AV),uK a b=true→a=b
 | .sc a,b,h=>by cases b<;>simp only[uK,dL] at h;rw[aen h]
 | .agg a,b,h=>by cases b<;>simp only[uK,dL] at h;rw[Cd a _ h]
 | .fw,b,h=>by cases b<;>simp only[uK,dL] at h;rfl
 | .an,b,h=>by cases b<;>simp only[uK,dL] at h;rfl
 | .lit a,b,h=>by cases b<;>simp only[uK,dL] at h;rw[Cd a _ h]
 | .dO a,b,h=>by cases b<;>simp only[uK,dL] at h;rw[Cd a _ h]
 | .bO a,b,h=>by cases b<;>simp only[uK,dL] at h;rw[Cd a _ h]
 | .eB t a,b,h=>by
   cases b<;>simp only[uK,dL] at h
   split at h
   · rename_i h1;rw[DU h1,EL a _ h]
   · simp at h
 | .ptr a b c,d,h=>by
   cases d<;>simp only[uK,dL] at h
   split at h
   · rename_i h1 h2;rw[DU h1,DU h2,DU h]
   · simp at h
 | .ai a b c,d,h=>by
   cases d<;>simp only[uK,dL] at h
   split at h
   · rename_i h1 h2;rw[DU h1,DU h2,DU h]
   · simp at h
 | .cR a,b,h=>by cases b<;>simp only[uK,dL] at h;rw[DU h]
 | .clip a,b,h=>by cases b<;>simp only[uK,dL] at h;rw[EL a _ h]
 | .fn _ _ _,b,h=>by simp[uK] at h
 | .sj _,b,h=>by simp[uK] at h
 | .top,b,h=>by simp[uK] at h
theorem Cd : ∀(a b:List AV),WR a b=true→a=b
 | [],b,h=>by cases b<;>simp only[WR,dL] at h;rfl
 | a::r,b,h=>by
   cases b<;>simp only[WR,dL] at h
   split at h
   · rename_i h1;rw[EL a _ h1,Cd r _ h]
   · simp at h
end
def JB (k:Nat):List (AV×ag)→Option AV
 | []=>none
 | [(v,S)]=>vp S k v
 | (v,S)::r=>match vp S k v,JB k r with
   | some a,some b=>match uK a b with
     | true=>some a
     | false=>none
   | _,_=>none
def closed (T:FT)(P:Program)(n d k f:Nat)(args:List AV):Option AV:=
 match St.outs T P d n [St.start T f args ag.empty] with
 | some l=>JB k l
 | none=>none
variable {k : Nat}
theorem Ph : ∀ {l:List (AV×ag)} {v' : AV},JB k l=some v' → ∀ v S,(v,S)∈l→vp S k v=some v' := by
 intro l
 induction l with
 | nil=>simp_all
 | cons p r j=>
   obtain⟨u,U⟩:=p
   intro v' h v S hm
   cases r with
   | nil=>
     simp only[px,lR] at hm
     obtain⟨rfl,rfl⟩:=hm
     exact h
   | cons q r=>
     simp only[JB] at h
     split at h<;>try (simp at h;done)
     rename_i a b ha hb
     split at h<;>simp only[ba,reduceCtorEq] at h
     rename_i i
     have i:=EL _ _ i
     subst h
     rcases cF.1 hm with e | hm
     all_goals simp_all
section
variable {T : FT} {P : Program}
variable {n d f : Nat} {args : List AV} {v : AV}
theorem Kj (i:di T P)(e:P.follows .mixedOrders=true)(h:closed T P n d k f args=some v):fY P f args ag.empty fun r _=>r=.ret v:=by
 unfold closed at h
 split at h<;>try (simp at h;done)
 rename_i l j
 exact(Pg i e j).freeze fun r m ⟨u,a,b⟩=>⟨u,a,Ph h u m b⟩
theorem Kk (b:di T P)(a:P.follows .mixedOrders=true)(h:closed T P n d k f args=some v)(ha:cG args=true)(e:aV v=true)(S:ag) :
 fY P f args S fun r i=>r=.ret v∧i=S:=(Kj b a h).frame ha e S
def zE : List (List AV×AV)→List AV→ag→Option (AV×ag)
 | [],_,_=>none
 | (a,v)::r,args,S=>match WR args a with
   | true=>some (v,S)
   | false=>zE r args S
def Fq (P:Program)(f:Nat)(l:List (List AV×AV)):Prop:=∀ a v,(a,v)∈l→∀ S,fY P f a S fun r b=>r=.ret v∧b=S
theorem vY : ∀ {l:List (List AV×AV)},Fq P f l→∀ args S v b,zE l args S=some (v,b)→fY P f args S fun r e=>r=.ret v∧e=b:=by
 intro l
 induction l with
 | nil=>simp_all[zE]
 | cons p r j=>
   obtain⟨a,u⟩:=p
   intro i args S v b h
   simp only[zE] at h
   split at h
   · rename_i m
     simp only[ba,lR] at h
     obtain⟨rfl,rfl⟩:=h
     rw[Cd _ _ m]
     exact i a u (jq ..) S
   · exact j (fun a v o=>i a v (Ez _ o)) args S v b h
theorem Fq.nil : Fq P f []:=fun a v h=>by simp at h
theorem Fq.cons {a:List AV}{l:List (List AV×AV)}(h:∀ S,fY P f a S fun r i=>r=.ret v∧i=S)(t:Fq P f l):Fq P f ((a,v)::l):=by
 intro b u hm
 rcases cF.1 hm with e | hm
 · simp_all
 · exact t b u hm
def Ql (n:Nat):xZ→Bool
 | []=>true
 | (id,_)::r=>match Nat.ble n id with
   | true=>Ql n r
   | false=>false
def C8 : xZ→List Nat
 | []=>[]
 | (id,_)::r=>id::C8 r
def Ce (k:Nat)(v:AV)(S:ag)(c:xZ):Option (AV×ag):=
 match Ql S.lim c with
 | true=>match vp ⟨S.nx,S.lim,uk .nil c⟩ k v with
   | some v' => some (v', ⟨S.nx,S.lim,jA S.m (C8 c)⟩)
   | none=>none
 | false=>none
def Ox (T:FT)(P:Program)(d k f:Nat)(args:List AV)(S:ag):Option (AV×ag):=
 match St.rep T P d (St.start T f args S) with
 | .done (.ret v) S1=>Ce k v S1 (mN S1 0 xf [v] [])
 | _=>none
theorem IM : ∀ {c:xZ},Ql n c=true→∀ id ob,(id,ob)∈c→n≤id:=by
 intro c
 induction c with
 | nil=>simp_all
 | cons p r a=>
   obtain⟨k,x⟩:=p
   intro h id ob hm
   simp only[Ql] at h
   split at h
   · rename_i hb
     rcases cF.1 hm with e | hm
     · simp_all
     · exact a h id ob hm
   · simp at h
theorem yo {id:Nat}:∀ {c:xZ},id∈C8 c↔qW c id=true:=by
 intro c
 induction c with
 | nil=>simp[C8,qW]
 | cons p r a=>
   obtain⟨k,x⟩:=p
   simp only[C8,qW,cF]
   cases hb:Nat.beq k id with
   | true=>simp[DU hb]
   | false=>
     have:id≠k:=by rintro rfl;simp_all
     simp[this,a]
variable {S S1 S2 : ag} {c : xZ} {g : Gh}
theorem Ext.yp {v' : AV}(M:∀ id ob,(id,ob)∈c→S1.get id≠none∧ob=S1.get id)(hf:Ce k v S1 c=some (v', S2)){g' : Gh}{w w' : World}(j:Inv S1 g' w')(h:Ext S g w S1 g' w') :
   ∃ H,(∀ x,VR g' v x→VR H v' x)∧Inv S2 H w' ∧ Ext S g w S2 H w' := by
 have s:∀ id ob,(id,ob)∈c→Ok id:=by
   simp_all
 unfold Ce at hf
 split at hf<;>try (simp at hf;done)
 rename_i C
 split at hf<;>simp only[ba,lR,reduceCtorEq] at hf
 rename_i v0 D
 obtain⟨rfl,rfl⟩:=hf
 obtain⟨A,y⟩:∃ x:ag,x=⟨S1.nx,S1.lim,uk .nil c⟩:=⟨_,rfl⟩
 obtain⟨S2,r⟩:∃ x:ag,x=⟨S1.nx,S1.lim,jA S1.m (C8 c)⟩:=⟨_,rfl⟩
 rw[←y] at D
 rw[←r]
 have I:∀ id o,A.get id=some o→qW c id=true∧S1.get id=some o:=by
   intro id o e
   have hi:=ag.gv e
   rw[ag.cE hi,y] at e
   have e:PT.get dep (uk .nil c) id=some o:=e
   cases R:qW c id with
   | false=>rw[uW hi s R,PT.get_nil] at e;simp at e
   | true=>
     obtain⟨ob,B,q2⟩:=EI (m:=.nil) hi s R
     rw[q2] at e
     obtain⟨_,b⟩:=M id ob B
     exact⟨rfl,by rw[←b];exact e⟩
 have h2:∀ id o,S2.get id=some o→qW c id=false∧S1.get id=some o:=by
   intro id o e
   have hi:=ag.gv e
   rw[ag.cE hi,r] at e
   have e:PT.get dep (jA S1.m (C8 c)) id=some o:=e
   obtain⟨a,b⟩:=Vr hi (fun k J=>by obtain⟨ob,q⟩:=tJ (yo.1 J);exact s k ob q) e
   refine⟨?_,by rw[ag.cE hi];exact b⟩
   cases q:qW c id with
   | false=>rfl
   | true=>exact absurd (yo.2 q) a
 have N:∀ id,qW c id=false→S2.get id=S1.get id:=by
   intro id e
   by_cases hi:Ok id
   · rw[ag.cE hi,ag.cE hi,r]
     show PT.get dep (jA S1.m (C8 c)) id=_
     rw[LY hi (fun k J=>by obtain⟨ob,q⟩:=tJ (yo.1 J);exact s k ob q),if_neg]
     intro q;rw[yo.1 q] at e;simp at e
   · rw[ag.rC hi,ag.rC hi]
 have E:Inv A g' w' := j.less (by rw[y]) fun id o e=>(I id o e).2
 have z:=Gh.jY E
 have i:∀ b c0,(g'.freeze A w').ro b=some c0→g'.ro b=some c0∨(∃ t fz,w'.heap[b]? = some (.cells c0 t fz))∧∃ id o l,A.get id=some o∧g'.ph id=some l∧l.cU=b:=by
   intro b c0 e
   simp only[Gh.freeze] at e
   split at e
   · rename_i c' W;simp only[ba] at e;subst e;exact .inl W
   · split at e
     · rename_i c' t fz hh
       split at e<;>simp only[ba,reduceCtorEq] at e
       rename_i O
       subst e;exact .inr ⟨⟨t,fz,hh⟩,O⟩
     · simp at e
 have V:S1.lim=S.lim:=h.lim
 refine⟨g'.freeze A w', fun x G=>Cl E z k v v0 x D G,⟨?_,?_,?_,?_⟩,⟨h.size,h.os,h.tape,h.output,h.jr,?_,Gh.le_trans h.pc z.1,by rw[r];exact h.nx,by rw[r];exact h.lim,?_,h.wY,?_,?_,h.fz⟩⟩
 · intro b c0 e
   rcases i b c0 e with q | ⟨q,_⟩
   · exact j.ro b c0 q
   · exact q
 · intro id o e
   obtain⟨a,b⟩:=h2 id o e
   obtain⟨l,U,X,Y⟩:=j.ob id o b
   refine⟨l,U,?_,Y.mono z.1⟩
   cases q:(g'.freeze A w').ro l.cU with
   | none=>rfl
   | some c0=>
     rcases i _ c0 q with q | ⟨_,u,o0,K,B,q2,q3⟩
     · rw[X] at q;simp at q
     · obtain⟨a0,L⟩:=I u o0 B
       have:=j.inj id u o o0 l K b L U q2 q3.symm
       subst this
       rw[a] at a0;simp at a0
 · intro id F o o' l l' e Z p p' hb
   exact j.inj id F o o' l l' (h2 id o e).2 (h2 F o' Z).2 p p' hb
 · intro id bE;rw[r] at bE;exact j.fresh id bE
 · intro id o l e e1 e2 e3
   exact h.own id o l (h2 id o e).2 e1 e2 e3
 · intro id bE
   rw[N id ?_]
   · exact h.w6 id bE
   · cases q:qW c id with
     | false=>rfl
     | true=>
       obtain⟨ob,q⟩:=tJ q
       have:=IM C id ob q
       omega
 · intro b c0 e hb
   rcases i b c0 e with q | ⟨_,id,o,l,B,q2,q3⟩
   · exact h.C2 b c0 q hb
   · obtain⟨a,L⟩:=I id o B
     obtain⟨ob,q⟩:=tJ a
     have:=IM C id ob q
     obtain⟨u,o0,K,r1,r2,r3,r4⟩:=h.own id o l L (by omega) q2 (by rw[q3];exact hb)
     exact .inr ⟨u,o0,K,r1,r2,r3,by rw[r4,q3]⟩
 · intro id bE e
   have:=h.dead id bE e
   cases q:S2.get id with
   | none=>rfl
   | some o=>rw[(h2 id o q).2] at this;simp at this
variable {l : List AV}
theorem Gd (a:mN S1 0 xf l []=c):∀ id ob,(id,ob)∈c→S1.get id≠none∧ob=S1.get id:=by
 intro id ob e
 rw[←a] at e
 rcases tl e with q | ⟨_,b,q2⟩
 · simp at q
 · exact⟨b,q2⟩
theorem fY.yp {f:FuncId}{args:List AV}{v v' : AV}{S S1 S2:ag}{k:Nat}(h:fY P f args S fun r b=>r=.ret v∧b=S1)(hf:Ce k v S1 (mN S1 0 xf [v] [])=some (v', S2)) :
  fY P f args S fun r b=>r=.ret v' ∧ b=S2:=by
 intro g w xs hx hi
 refine(h g w xs hx hi).mono fun e w' ⟨r,b,g', ⟨o,i⟩,a,j,m⟩=>?_
 subst o;subst i
 obtain⟨p,q,s,t⟩:=Ext.yp (Gd rfl) hf j m
 refine⟨.ret v', S2,p,⟨rfl,rfl⟩,?_,s,t⟩
 cases e with
 | returned x=>exact q x a
 | panicked c=>exact a.elim
 | outgrown=>exact a.elim
variable {args' : List AV} {Q : gL → ag → Prop}
theorem fY.VD {f:FuncId}(hf:Ce k (.bO args) S (mN S 0 xf args [])=some (.bO args', S2))(h:fY P f args' S2 Q):fY P f args S Q:=by
 intro g w xs hx hi
 obtain⟨j,m,o,p⟩:=Ext.yp (Gd rfl) hf hi (Ext.refl _ _ _)
 have q:=m (.tuple xs) (.bO hx.1 hx.2)
 cases q with | bO h1 h2=>?_
 refine(h j w xs ⟨h1,h2⟩ o).mono fun e w' ⟨r,s,g', t,a,b,i⟩=>?_
 exact⟨r,s,g', t,a,b,p.trans i⟩
def Uc (k:Nat)(x:List AV→ag→Option (AV×ag))(args:List AV)(S:ag):Option (AV×ag):=
 match Ce k (.bO args) S (mN S 0 xf args []) with
 | some (.bO a,S2)=>x a S2
 | _=>none
variable {x : List AV → ag → Option (AV × ag)}
theorem MK (hx:∀ args S v e,x args S=some (v,e)→fY P f args S fun r b=>r=.ret v∧b=e)(args:List AV)(S:ag)(v:AV)(e:ag)(h:Uc k x args S=some (v,e)) :
  fY P f args S fun r b=>r=.ret v∧b=e:=by
 unfold Uc at h
 split at h<;>try (simp at h;done)
 rename_i a S2 hf
 exact fY.VD hf (hx _ _ _ _ h)
mutual
def wv : AV→Bool
 | .sc _=>true
 | .an=>true
 | .agg l=>LM l
 | .bO l=>LM l
 | .eB _ v=>wv v
 | _=>false
def LM : List AV→Bool
 | []=>true
 | v::r=>match wv v with
   | true=>LM r
   | false=>false
end
theorem IN (h:LM l=true):∀ {k:Nat} {a:AV},l[k]? = some a→wv a=true:=by
 induction l with
 | nil=>intro k a e;simp at e
 | cons v r b=>
   intro k a e
   simp only[LM] at h
   split at h<;>try (simp at h;done)
   rename_i i
   cases k with
   | zero=>simp_all
   | succ k=>exact b h (by simpa using e)
theorem VR.flat {o:Gh}{x:Value}(h:VR g v x)(i:wv v=true):VR o v x:=by
 induction h with
 | sc h=>exact .sc h
 | agg j _ b=>exact .agg j fun k a x e m=>b k a x e m (IN (by simpa [wv] using i) e)
 | bO j _ b=>exact .bO j fun k a x e m=>b k a x e m (IN (by simpa [wv] using i) e)
 | eB _ b=>exact .eB (b (by simpa [wv] using i))
 | an=>exact .an
 | _=>simp[wv] at i
theorem fY.read {f:FuncId}(hf:vp S k (.bO args)=some (.bO args'))(ha:cG args' = true)(R:wv v=true)(h:fY P f args' ag.empty fun r _=>r=.ret v) :
   fY P f args S fun r M=>r=.ret v∧M=S:=by
 intro g w xs hx hi
 have B:=Gh.jY hi
 obtain⟨F,C⟩:∃ k:Gh,k=g.freeze S w:=⟨_,rfl⟩
 rw[←C] at B
 have H:=Cl hi B k _ _ (.tuple xs) hf (.bO hx.1 hx.2)
 cases H with | bO h1 h2=>?_
 have z:∀ b c,F.ro b=some c→∃ t fz,w.heap[b]? = some (.cells c t fz):=by
   intro b c e
   subst C
   simp only[Gh.freeze] at e
   split at e
   · rename_i c' U;simp only[ba] at e;subst e;exact hi.ro _ _ U
   · split at e
     · rename_i c' t fz hh
       split at e<;>simp only[ba,reduceCtorEq] at e
       subst e;exact⟨t,fz,hh⟩
     · simp at e
 have I:Inv ag.empty F.bare w:=⟨z,fun id o e=>by rw[ag.fN] at e;simp at e,fun id D o o' l l' e=>by rw[ag.fN] at e;simp at e,fun _ _=>rfl⟩
 have J:hM F.bare args' xs:=⟨h1,fun k a x e G=>(h2 k a x e G).bare (fO ha e)⟩
 refine(h F.bare w xs J I).mono fun e w' ⟨r,M,g', V,m,K,j⟩=>?_
 subst V
 obtain⟨A,s⟩:∃ k:Gh,k={ ro:=fun b=>if b<w.heap.size then g.ro b else g'.ro b,ph:=g.ph }:=⟨_,rfl⟩
 have BS:∀ b,b<w.heap.size→A.ro b=g.ro b:=fun b hb=>by subst s;simp[hb]
 have L:∀ b,¬ b<w.heap.size→A.ro b=g'.ro b:=fun b hb=>by subst s;simp[hb]
 have i:∀ b,b<w.heap.size→w'.heap[b]? = w.heap[b]? := fun b hb=>j.jr b hb fun id o l e=>by rw[ag.fN] at e;simp at e
 have E:∀ b c,g.ro b=some c→b<w.heap.size:=by
   intro b c e
   obtain⟨t,fz,q⟩:=hi.ro b c e
   exact(y8.1 q).1
 have y:Gh.le g A:=⟨fun b c e=>by rw[BS b (E b c e)];exact e,fun _ _ e=>by subst s;exact e⟩
 have u:A.ph=g.ph:=by subst s;rfl
 refine⟨.ret v,S,A,⟨rfl,rfl⟩,?_,⟨?_,?_,?_,?_⟩,⟨j.size,j.os,j.tape,j.output,fun b hb _=>i b hb,?_,y,bJ _,rfl,fun _ _=>rfl,?_,?_,?_,j.fz⟩⟩
 · cases e with
   | returned x=>exact VR.flat m R
   | panicked c=>exact m.elim
   | outgrown=>exact m.elim
 · intro b c e
   by_cases hb:b<w.heap.size
   · rw[BS b hb] at e
     rw[i b hb];exact hi.ro b c e
   · rw[L b hb] at e;exact K.ro b c e
 · intro id o e
   obtain⟨l,a,b,c⟩:=hi.ob id o e
   refine⟨l,y.ph _ _ a,?_,?_⟩
   · rw[BS _ c.lt];exact b
   · rw[i _ c.lt];exact c.mono y
 · intro id D o o' l l' e G p N hb
   rw[u] at p N
   exact hi.inj id D o o' l l' e G p N hb
 · intro id bE;rw[u];exact hi.fresh id bE
 · intro id o l e W O X
   rw[u] at O
   exact⟨id,o,l,e,W,O,rfl⟩
 · intro id _;rw[u]
 · intro b c e hb;rw[BS b hb] at e;exact .inl e
 · exact fun _ _ e=>e
def JT (k:Nat)(x:List AV→ag→Option (AV×ag))(args:List AV)(S:ag):Option (AV×ag):=
 match vp S k (.bO args) with
 | some (.bO a)=>match cG a with
   | true=>match x a ag.empty with
     | some (v,_)=>match wv v with
       | true=>some (v,S)
       | false=>none
     | none=>none
   | false=>none
 | _=>none
theorem HG (hx:∀ args S v e,x args S=some (v,e)→fY P f args S fun r b=>r=.ret v∧b=e)(args:List AV)(S:ag)(v:AV)(e:ag)(h:JT k x args S=some (v,e)) :
  fY P f args S fun r b=>r=.ret v∧b=e:=by
 unfold JT at h
 split at h<;>try (simp at h;done)
 rename_i a hf
 split at h<;>try (simp at h;done)
 rename_i j
 split at h<;>try (simp at h;done)
 rename_i u S1 hu
 split at h<;>simp only[ba,lR,reduceCtorEq] at h
 rename_i i
 obtain⟨rfl,rfl⟩:=h
 exact fY.read hf j i ((hx _ _ _ _ hu).mono fun r b q=>q.1)
theorem Kl (i:di T P)(a:P.follows .mixedOrders=true)(args:List AV)(S:ag)(v:AV)(b:ag)(h:Ox T P d k f args S=some (v,b)):fY P f args S fun r e=>r=.ret v∧e=b:=by
 unfold Ox at h
 split at h
 · rename_i u S1 j
   exact fY.yp ((St.sound i a j).mono fun r b q=>q) h
 · simp at h
theorem fY.quiet {f:FuncId}{lim m:Nat}{t:PT}(Y:lim≤n)(h:fY P f args ⟨n,n,t⟩ Q)(O:∀ r G,Q r G→r=.ret v∧G.nx=m∧mN G n xf [v] []=c) :
   fY P f args ⟨n,lim,t⟩ fun r G=>r=.ret v∧G=⟨m,lim,uk t c⟩:=by
 intro g w xs hx hi
 have J:Inv ⟨n,n,t⟩ g w:=Inv.less (A:=⟨n,n,t⟩) (B:=⟨n,lim,t⟩) rfl (fun id o e=>e) hi
 refine(h g w xs hx J).mono fun e w' ⟨r,S1,g', R,K,M,i⟩=>?_
 obtain⟨U,q2,q3⟩:=O r S1 R
 subst U
 have z:∀ id ob,(id,ob)∈c→n≤id∧S1.get id≠none∧ob=S1.get id:=by
   intro id ob e
   rw[←q3] at e
   rcases tl e with q | q
   · simp at q
   · exact q
 have C:∀ id ob,(id,ob)∈c→Ok id:=by
   intro id ob e
   obtain⟨_,a,_⟩:=z id ob e
   cases q:S1.get id with
   | none=>exact absurd q a
   | some y=>exact ag.gv q
 have s:∀ id o,(⟨n,n,t⟩:ag).get id=some o→n≤id→False:=fun id o e V=>by have:=J.lU e;exact absurd this (Nat.not_lt.2 V)
 have E:∀ b,b<w.heap.size→w'.heap[b]? = w.heap[b]? := fun b hb=>i.jr b hb fun id o l e L=>(s id o e L).elim
 obtain⟨S2,j⟩:∃ x:ag,x=⟨m,lim,uk t c⟩:=⟨_,rfl⟩
 have p:∀ id,id<n→S2.get id=(⟨n,lim,t⟩:ag).get id:=by
   intro id bE
   by_cases hb:Ok id
   · rw[ag.cE hb,ag.cE hb,j]
     refine uW hb C ?_
     cases q:qW c id with
     | false=>rfl
     | true=>obtain⟨ob,q⟩:=tJ q;have:=(z id ob q).1;omega
   · rw[ag.rC hb,ag.rC hb]
 have F:∀ id,(⟨n,lim,t⟩:ag).get id=(⟨n,n,t⟩:ag).get id:=fun id=>rfl
 have u:∀ id o,S2.get id=some o→S1.get id=some o:=by
   intro id o e
   by_cases bE:id<n
   · rw[p id bE,F] at e
     rw[i.w6 id bE];exact e
   · have hb:=ag.gv e
     rw[ag.cE hb,j] at e
     have e:PT.get dep (uk t c) id=some o:=e
     cases q:qW c id with
     | true=>
       obtain⟨ob,H,I⟩:=EI (m:=t) hb C q
       rw[I] at e
       rw[←(z id ob H).2.2];exact e
     | false=>
       rw[uW hb C q] at e
       have:(⟨n,n,t⟩:ag).get id=some o:=by rw[ag.cE hb];exact e
       exact(s id o this (by omega)).elim
 rw[←j]
 refine⟨.ret v,S2,g', ⟨rfl,rfl⟩,K,M.less (by rw[j];exact q2.symm) u,⟨i.size,i.os,i.tape,i.output,fun b hb _=>E b hb,?_,i.pc,by rw[j,←q2];exact i.nx,by rw[j],?_,i.wY,?_,?_,i.fz⟩⟩
 · intro id o l e L N W
   by_cases bE:id<n
   · rw[p id bE] at e
     exact⟨id,o,l,e,L,by rw[←i.wY id bE];exact N,rfl⟩
   · obtain⟨D,o0,X,H,I,_⟩:=i.own id o l (u id o e) (by show n≤id;omega) N W
     exact(s D o0 H I).elim
 · intro id bE
   have bE:id<lim:=bE
   exact p id (by omega)
 · intro b c0 e hb
   rcases i.C2 b c0 e hb with q | ⟨D,o0,X,H,I,_⟩
   · exact .inl q
   · exact(s D o0 H I).elim
 all_goals simp_all
end
def Am.W4 (P:Program)(f:Nat)(e:Am):Prop:=P.funcs[f]? = some e.fn∧e.fn.body=some e.body∧nz P f=true∧e.ext=none
def G7 (P:Program):Nat→Nat→Nat→FT→Prop
 | _,_,_,.nil=>True
 | 0,b,_,.node o _ _=>match o with
   | some e=>Am.W4 P b e
   | none=>True
 | d+1,b,s,.node _ l r=>G7 P d b (2*s) l∧G7 P d (b+s) (2*s) r
variable {P : Program}
theorem Yq : ∀ {d b s:Nat} {T:FT} {i:Nat} {e:Am},G7 P d b s T→i<2 ^ d→FT.get d T i=some e→Am.W4 P (b+s*i) e:=by
 intro d
 induction d with
 | zero=>
   intro b s T i e h hi a
   cases T<;>simp_all[FT.get,G7]
 | succ d j=>
   intro b s T i e h hi a
   cases T with
   | nil=>simp[FT.get] at a
   | node o l r=>
     obtain⟨h1,h2⟩:=h
     have m:2 ^ (d+1)=2*2 ^ d:=by omega
     simp only[FT.get] at a
     split at a
     · rename_i hb
       have hb:=DU hb
       have:=j h1 (by omega) a
       rw[show b+2*s*(i/2)=b+s*i from by rw[Nat.mul_comm 2 s,Nat.mul_assoc,show 2*(i/2)=i from by omega]] at this
       exact this
     · rename_i hb
       have hb:i%2=1:=by
        have:=Nat.mod_two_eq_zero_or_one i
        rcases this with q | q
        · rw[q] at hb;simp at hb
        · exact q
       have:=j h2 (by omega) a
       rw [show b+s+2*s*(i/2)=b+s*i from by rw[Nat.mul_comm 2 s,Nat.mul_assoc,Nat.add_assoc,show s+s*(2*(i/2))=s*i from by
        rw[show s+s*(2*(i/2))=s*(2*(i/2)+1) from by rw[Nat.mul_add,Nat.mul_one,Nat.add_comm],show 2*(i/2)+1=i from by omega]]] at this
       exact this
variable {T : FT}
theorem di.base (h:G7 P 10 0 1 T):di T P:=by
 intro f e i
 unfold FT.look at i
 split at i
 · rename_i hb
   have hb:=gb hb
   obtain⟨a,b,c,d⟩:=Yq h (show f<2 ^ 10 from hb) i
   simp_all
 · simp at i
variable {x : List AV → ag → Option (AV × ag)}
theorem VE : ∀ {d:Nat} {T:FT} {i j:Nat} {e:Am},i<2 ^ d→j<2 ^ d→FT.get d (FT.Jn d T i x) j=some e→FT.get d T j=some e∨(j=i∧∃ a,FT.get d T j=some a∧e={ a with ext:=some x }):=by
 intro d
 induction d with
 | zero=>
   intro T i j e hi s h
   cases T with
   | nil=>simp[FT.Jn,FT.get] at h
   | node o l r=>
     have hi:i=0:=by simpa using hi
     have s:j=0:=by simpa using s
     cases o with
     | none=>simp[FT.Jn,FT.get] at h
     | some a=>
       simp only[FT.Jn,FT.get,ba] at h
       exact .inr ⟨by omega,a,rfl,h.symm⟩
 | succ d u=>
   intro T i j e hi s h
   have w:2 ^ (d+1)=2*2 ^ d:=by rw[Nat.pow_succ];omega
   have p:∀ {n:Nat},Nat.beq (n%2) 0=false→n%2=1:=by
     intro n hb
     rcases Nat.mod_two_eq_zero_or_one n with q | q
     · rw[q] at hb;simp at hb
     · exact q
   cases T with
   | nil=>simp[FT.Jn,FT.get] at h
   | node o l r=>
     simp only[FT.Jn] at h
     cases b:Nat.beq (i%2) 0<;>rw[b] at h<;>cases m:Nat.beq (j%2) 0<;>simp only[FT.get,m] at h ⊢
     · rcases u (by omega) (by omega) h with q | ⟨q,a,t,q2⟩
       · exact .inl q
       · have:=p b;have:=p m
         exact .inr ⟨by omega,a,t,q2⟩
     · exact .inl h
     · exact .inl h
     · rcases u (by omega) (by omega) h with q | ⟨q,a,t,q2⟩
       · exact .inl q
       · have:=DU b;have:=DU m
         exact .inr ⟨by omega,a,t,q2⟩
def FT.AD (T:FT)(f:Nat)(x:List AV→ag→Option (AV×ag)):FT:=FT.Jn 10 T f x
variable {f : Nat}
theorem di.ext (h:di T P)(hf:f<1024)(hx:∀ args S v o,x args S=some (v,o)→fY P f args S fun r j=>r=.ret v∧j=o):di (T.AD f x) P:=by
 intro g e i
 unfold FT.look at i
 split at i
 · rename_i hb
   have m:=gb hb
   rcases VE (show f<2 ^ 10 from hf) (show g<2 ^ 10 from m) i with q | ⟨rfl,p,s,q2⟩
   · exact h g e (by unfold FT.look;rw[hb];exact q)
   · obtain⟨a,b,c,_⟩:=h g p (by unfold FT.look;rw[hb];exact s)
     simp_all
 · simp at i
end
end Go.Eng

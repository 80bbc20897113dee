/- Short forms for lifted functions, and the sort as a contract; no conditions. -/
import Derived.Test.YtnangdjonghnaaaGreatVEngE
import Derived.Shelf.SlSortCmp.WholeK
set_option linter.unusedVariables false
set_option linter.unusedSimpArgs false
namespace Go.Eng
open Go.Proofs Go.Shelf
theorem Inv.grow {S:af}{g:Gh}{w:World}(hi:Inv S g w)(os:Array Obj):Inv S g (Sort.grow w os):=by
 have rM:∀ b y,w.heap[b]? = some y→(Sort.grow w os).heap[b]? = w.heap[b]? := fun b y e=>Sort.heap_grow_old w os (Array.getElem?_eq_some_iff.1 e).1
 refine⟨fun b c e=>?_,fun id o e=>?_,hi.inj,hi.fresh⟩
 · obtain⟨t,fz,q⟩:=hi.ro b c e
   exact⟨t,fz,(rM b _ q).trans q⟩
 · obtain⟨l,a,b,c⟩:=hi.ob id o e
   obtain⟨y,d⟩:=c.some
   exact⟨l,a,b,by rw[rM _ _ d];exact c⟩
theorem Ext.grow {S:af}{g:Gh}{w:World}(os:Array Obj):Ext S g w S g (Sort.grow w os):=
 ⟨by simp,rfl,⟨rfl,Nat.le_refl _⟩,rfl,fun b c _=>Sort.heap_grow_old w os c,fun id o l h h1 h2 _=>⟨id,o,l,h,h1,h2,rfl⟩,Gh.le_refl _,Nat.le_refl _,rfl,fun _ _=>rfl,fun _ _=>rfl,fun _ _ e _=>.inl e,fun _ _ e=>e,fun a d=>Sort.frozen?_grow w os a d⟩
variable {S : af} {g : Gh} {w : World}
theorem Ext.Nn {b:af}{g' : Gh}{w' : World}(c:∀ id,S.get id=none)(h:Ext S g w b g' w'):∃ q os,w' = Sort.grow (w.drewN q) os:=by
 refine⟨w'.drawn-w.drawn,w'.heap.extract w.heap.size w'.heap.size,?_⟩
 have hh:w'.heap=w.heap++w'.heap.extract w.heap.size w'.heap.size:=by
  apply Array.ext_getElem?
  intro k
  rw[Array.getElem?_append]
  split
  · rename_i a
    exact h.gQ k a fun id o l e=>by rw[c] at e;simp at e
  · rename_i a
    rw[Array.getElem?_extract]
    have:w.heap.size+(k-w.heap.size)=k:=by omega
    rw[this]
    split
    · rfl
    · rw[Array.getElem?_eq_none (by have:=h.size;omega)]
 have d:=h.os;have f:=h.tape.1;have m:=h.tape.2;have i:=h.output
 have j:w'.drawn=w.drawn+(w'.drawn-w.drawn):=by omega
 cases w';cases w
 simp only[Sort.grow,World.drewN] at *
 subst d f i
 rw[←j,←hh]
variable {n : Nat}
def kS (c:Array Value)(base k:Nat)(i:_root_.Fin n):List Value:=(List.range k).map fun j=>c[base+i.val*k+j]!
theorem wb (c:Array Value)(base k:Nat)(i:_root_.Fin n):(kS c base k i).length=k:=by simp[kS]
theorem yW [Inhabited (_root_.Fin n)] (c:Array Value) (base k:Nat) (j:Nat) (d:Array (_root_.Fin n)) (a:j<d.size*k) :
  (Sort.flatK (kS c base k) k d)[j]! = c[base+(d[j/k]!).val*k+j%k]! := by
 have b:0<k:=by
  rcases Nat.eq_zero_or_pos k with h | h
  · subst h;simp at a
  · exact h
 rw[Sort.get_flatK _ _ _ _ a]
 have:j%k<(kS c base k d[j/k]!).length:=by rw[wb];exact Nat.mod_lt _ b
 rw[getElem!_pos (kS c base k d[j/k]!) (j%k) this]
 simp[kS]
theorem No [Inhabited (_root_.Fin n)] {i:Nat} (h:i<n):((Array.ofFn (n:=n) id)[i]!).val=i:=by
 rw[getElem!_pos _ _ (by simpa using h)]
 simp
theorem Eu [Inhabited (_root_.Fin n)] (c:Array Value) (base k:Nat) (d:Array (_root_.Fin n)) {b:Nat} {t:TypeId} (a:w.heap[b]? = some (.cells c t (0,0))) :
   ∃ c', (Sort.putRowK (kS c base k) k w b base d).heap[b]? = some (.cells c' t (0,0))∧c'.size=c.size∧∀ j,j<d.size*k→base+j<c.size→c'[base+j]? = some c[base+(d[j/k]!).val*k+j%k]! := by
 refine⟨Sort.putCells id base (Sort.flatK (kS c base k) k d) c,?_,by simp[Sort.putCells],fun j e f=>?_⟩
 · simp[Sort.putRowK,Sort.putRow,Sort.mapBlock,Array.getElem?_modify,a,Sort.onCells]
 · simp only[Sort.putCells,Array.getElem?_mapIdx,Bx f,Option.map_some,Sort.size_flatK]
   rw[if_pos ⟨by omega,by omega⟩,show base+j-base=j by omega,yW c base k j d e]
   rfl
theorem rD {α:Type} [Inhabited α] (enc:α→List Value) (k:Nat) (w:World) (b off:Nat) (d:Array α) (j:Nat) (h:j≠b):(Sort.putRowK enc k w b off d).heap[j]? = w.heap[j]? := by
 simp[Sort.putRowK,Sort.putRow,Sort.mapBlock,Array.getElem?_modify,Ne.symm h]
theorem VR.Np {id off len:Nat}{x:Value}(h:VR g (.aj id off len) x)(d:0<len):∃ l cap,g.ph id=some l∧x=.slice (some ⟨l.cd,l.base+off*l.sz,none⟩) len cap:=by
 cases h with
 | aj a b c=>exact⟨_,_,a,rfl⟩
 | ga a b=>omega
variable {β : Type}
noncomputable def Ac (a:β→β→Int)(l:List β) [Inhabited (_root_.Fin l.length)]:List β:=
 (Sort.pdq (ltOf fun i j:_root_.Fin l.length=>a l[i] l[j]) (Array.ofFn id) 0 l.length (Lib.bitLen l.length) true true).toList.map fun i=>l[i]
set_option maxRecDepth 100000 in
theorem H6 {P:Program}{ρ:Ren}(L:SlLaysF0.n6 P ρ){encC:β→List AV}{k:Nat}(M:∀ x,(encC x).length=k)(k0:0<k)(hp:∀ x,br (encC x)=true)(hc:∀ x v,v∈encC x→dj v=true)(aE:∀ w,(isAgg (ρ.t 24)).run P w=.ok true w)(zE:∀ w,(Go.sizeOf (ρ.t 24)).run P w=.ok k w)(l:List β) [Inhabited (_root_.Fin l.length)] (hl:0<l.length) (hn:l.length<4611686018427387904) (G:β→β→Int) (hO:Sort.SWO (ltOf fun i j:_root_.Fin l.length=>G l[i] l[j])) {K:Nat} (eg:∀ args w,(callFunc K args).run P w=.ok (.enter K args) w) {cs:List AV} (hcs:br cs=true) (X:∀ x y,x∈l→y∈l→dc P K [.agg (encC x),.agg (encC y),.eV cs] af.empty fun r _=>r=.ret (.sc (.int .i64 (G x y)))) {o0 o1 s1:Nat} (h01:o1≠o0) (g0:S.get o0=some (.arr k (l.map fun x=>.agg (encC x)))) (g1:S.get o1=some (.arr s1 [.agg cs])) (Y:S.lim≤o0) :
  dc P (ρ.f 6) [.aj o0 0 l.length,.fn (.func K) [] [.ptr o1 0 0]] S fun r S' => r=.ret (.bm [])∧S' = S.set o0 (.arr k ((Ac G l).map fun x=>.agg (encC x))):=by
 intro g w xs hx hi
 obtain⟨d,p0,r0,c,t,hb,bz,sz,B,hcell,hvr⟩:=hi.ob o0 _ g0
 obtain⟨l1,p1,r1,c1,t1,O,bz1,sz1,C,E,Z⟩:=hi.ob o1 _ g1
 obtain⟨x0,e0,v0⟩:=hx.get (k:=0) rfl
 obtain⟨x1,e1,v1⟩:=hx.get (k:=1) rfl
 have hxs:xs = #[x0,x1]:=by
  apply Array.ext_getElem?
  intro i
  match i with
  | 0=>exact e0
  | 1=>exact e1
  | i+2=>rw[Array.getElem?_eq_none (by have:=hx.1;simp at this;omega)];simp
 subst hxs
 clear e0 e1 hx
 cases v1 with
 | fn hx1 hy1 h1 h1' =>
 rename_i xs1 Q
 have H:xs1 = #[]:=by simpa using hx1.symm
 subst H
 obtain ⟨p,hp1⟩:∃ p,Q = #[p]:=by
  simp only[List.length_cons,List.length_nil] at hy1
  refine⟨Q[0],Array.ext (by simp;omega) fun i a b=>?_⟩
  have:i=0:=by simp at b;omega
  subst this;rfl
 subst hp1
 have vp:=h1' 0 _ p rfl rfl
 cases vp with
 | ptr q1=>
 rename_i l1'
 rw[p1] at q1;simp only[ar] at q1;subst q1
 obtain⟨l0', cap,q0,rfl⟩:=v0.Np hl
 rw[p0] at q0;simp only[ar] at q0;subst q0
 rw[Nat.zero_mul,Nat.add_zero]
 simp only[List.length_map] at B
 have hblk:d.cd<w.heap.size:=(Array.getElem?_eq_some_iff.1 hb).1
 have J:l1.cd<w.heap.size:=(Array.getElem?_eq_some_iff.1 O).1
 have acL:l1.cd≠d.cd:=fun e=>h01 (hi.inj o1 o0 _ _ l1 d g1 g0 p1 p0 e)
 have inb:∀(i j:Nat),i<l.length→j<k→d.base+i*k+j<c.size:=by
  intro i j a b
  have:=u9 k (show i+1≤l.length from a)
  rw[Nat.add_mul,Nat.one_mul] at this
  omega
 have key:∀(i:_root_.Fin l.length) (j:Nat) (a:AV),(encC l[i])[j]? = some a→j<k→VR g a c[d.base+i.val*k+j]! := by
  intro i j a e s
  refine hvr i.val j (.agg (encC l[i])) a _ (by simp) e ?_
  rw[getElem!_pos c _ (inb _ _ i.isLt s)]
  exact Bx _
 have u:(Array.ofFn (n:=l.length) id).size=l.length:=by simp
 have hH:Sort.HoldsK (kS c d.base k) k w d.cd d.base (Array.ofFn (n:=l.length) id):=by
  intro j s
  rw[Sort.size_flatK,u] at s
  have hjk:j/k<l.length:=Nat.div_lt_of_lt_mul (by rw[Nat.mul_comm];exact s)
  rw[yW _ _ _ _ _ (by rw[u];exact s),No hjk]
  have e:d.base+j/k*k+j%k=d.base+j:=by rw[Nat.add_assoc,Nat.div_add_mod']
  rw[e]
  have lt:d.base+j<c.size:=by omega
  refine⟨?_,uC (by show xH w.heap[d.cd]? = true;rw[hb];rfl)⟩
  rw[getElem!_pos c _ lt]
  exact cell_of hb (Bx lt)
 have h1c:∀ x:_root_.Fin l.length,∀ v∈kS c d.base k x,v.oneCell' = true:=by
  intro x v hv
  simp only[kS,List.mem_map,List.mem_range] at hv
  obtain⟨j,s,rfl⟩:=hv
  have ha:(encC l[x])[j]? = some ((encC l[x])[j]'(by rw[M];exact s)):=oe _
  exact nC (hc l[x] _ (List.getElem_mem _)) (key x j _ ha s)
 have hC:CmpLays P K #[.pointer (some ⟨l1.cd,l1.base+0*l1.sz+0,none⟩)] (kS c d.base k) k (fun i j:_root_.Fin l.length=>G l[i] l[j]) d.cd d.base (Array.ofFn (n:=l.length) id).size w:=by
  intro m os dk hdk x y
  have gQ:∀ b,b<w.heap.size→b≠d.cd→(sortWorldK (kS c d.base k) k w d.cd d.base m dk os).heap[b]? = w.heap[b]? := by
   intro b hb2 H
   unfold sortWorldK
   rw[Sort.heap_grow_old _ _ (by rw[Sort.putRowK,Sort.size_putRow];exact hb2),rD _ _ _ _ _ _ _ H]
   rfl
  have R:Gh.le g.bare ⟨fun b=>if b=l1.cd then some c1 else g.ro b,fun _=>none⟩:=by
   refine⟨fun b cc e=>?_,fun b cc e=>by simp[Gh.bare] at e⟩
   have:b≠l1.cd:=by rintro rfl;simp only[Gh.bare] at e;rw[r1] at e;simp at e
   simp only[if_neg this];exact e
  have hi2:Inv af.empty ⟨fun b=>if b=l1.cd then some c1 else g.ro b,fun _=>none⟩ (sortWorldK (kS c d.base k) k w d.cd d.base m dk os):=by
   refine⟨fun b cc e=>?_,fun id o e=>by rw[af.di] at e;simp at e,fun id id' o o' l l' e=>by rw[af.di] at e;simp at e,fun _ _=>rfl⟩
   by_cases T:b=l1.cd
   · subst T
     simp only[if_true,ar] at e;subst e
     exact⟨t1,_,(gQ _ J acL).trans O⟩
   · simp only[if_neg T] at e
     obtain⟨t2,fz,q⟩:=hi.ro b cc e
     exact⟨t2,fz,(gQ b (hi.LF e) (by rintro rfl;rw[r0] at e;simp at e)).trans q⟩
  have U:∀ z:_root_.Fin l.length,VR ⟨fun b=>if b=l1.cd then some c1 else g.ro b,fun _=>none⟩ (.agg (encC l[z])) (.agg (kS c d.base k z).toArray):=by
   intro z
   refine .agg (by simp[M,wb]) fun j a v e N=>?_
   have s:j<k:=by rw[←M l[z]];exact(List.getElem?_eq_some_iff.1 e).1
   have:v=c[d.base+z.val*k+j]! := by
     rw[List.getElem?_toArray] at N
     simp only[kS,List.getElem?_map,List.getElem?_range s,Option.map_some,ar] at N
     exact N.symm
   subst this
   exact((key z j a e s).bare (eA (hp _) e)).mono R
  have vpt:VR ⟨fun b=>if b=l1.cd then some c1 else g.ro b,fun _=>none⟩ (.eV cs) (.pointer (some ⟨l1.cd,l1.base+0*l1.sz+0,none⟩)):=by
   have hcl:cs.length=s1:=E (.agg cs) (by simp)
   rw[show l1.base+0*l1.sz+0=l1.base by omega]
   refine .eV (c:=c1) (by simp) (by simp at C;omega) fun j a v e N=>?_
   have:=Z 0 j (.agg cs) a v rfl e (by rw[Nat.zero_mul,Nat.add_zero];exact N)
   exact(this.bare (eA hcs e)).mono R
  refine(X l[x] l[y] (List.getElem_mem _) (List.getElem_mem _) _ _ _ (fG.cons (xs:=[_,_]) (U x) (fG.cons (xs:=[_]) (U y) (fG.cons (xs:=[]) vpt (fG.nil _)))) hi2).mono ?_
  rintro e w' ⟨r,S', g', rfl,A,_,hx'⟩
  refine⟨?_,hx'.Nn fun id=>af.di id⟩
  cases e with
  | returned v=>cases A;rfl
  | panicked c=>exact A.elim
  | outgrown=>exact A.elim
 have F:=AnyQ.slices_SortFunc_eq L k aE zE (kS c d.base k) (wb c d.base k) h1c (fun i j:_root_.Fin l.length=>G l[i] l[j]) hO K #[.pointer (some ⟨l1.cd,l1.base+0*l1.sz+0,none⟩)] d.cd d.base cap (Array.ofFn (n:=l.length) id) w eg hC hH hblk (by rw[u];exact hn)
 rw[u] at F
 refine F.mono ?_
 rintro e w' ⟨rfl,n,os,rfl⟩
 have hD:(Sort.pdq (ltOf fun i j:_root_.Fin l.length=>G l[i] l[j]) (Array.ofFn id) 0 l.length (Lib.bitLen l.length) true true).size=l.length:=by
  have h:=Sort.pdq_sorts _ hO (Array.ofFn (n:=l.length) id) 0 l.length (Lib.bitLen l.length) true true (Nat.zero_le _) (Nat.le_of_eq u.symm) (Or.inl rfl)
  exact h.1.1.trans u
 unfold Ac
 generalize Sort.pdq (ltOf fun i j:_root_.Fin l.length=>G l[i] l[j]) (Array.ofFn id) 0 l.length (Lib.bitLen l.length) true true=D at hD ⊢
 obtain⟨c', hb', V,hc'⟩:=Eu c d.base k D (w:=Sort.ahead w n) hb
 obtain ⟨i1,x1⟩:=hi.j2 (w' := Sort.putRowK (kS c d.base k) k (Sort.ahead w n) d.cd d.base D) (o' := .arr k ((D.toList.map fun i=>l[i]).map fun x=>.agg (encC x))) g0 Y p0 (by rw[Sort.putRowK,Sort.size_putRow];rfl) hb' (fun j s=>rD _ _ _ _ _ _ _ s) rfl ⟨rfl,Nat.le_add_right _ _⟩ rfl
  ⟨c', t,rfl,V.trans bz,sz,by simp only[List.length_map,Array.length_toList,hD,V];exact B,fun e he=>by
   simp only[List.mem_map] at he
   obtain⟨_,_,rfl⟩:=he
   exact M _,fun i j e a y ee ea ey=>by
   have I:i<D.size:=by
     have:=(List.getElem?_eq_some_iff.1 ee).1;simpa using this
   have hie:e=.agg (encC l[D[i]]):=by
     simp only[List.getElem?_map,oe (show i<D.toList.length by simpa using I),Option.map_some,ar] at ee
     simpa using ee.symm
   subst hie
   have s:j<k:=by rw[←M l[D[i]]];exact(List.getElem?_eq_some_iff.1 ea).1
   have W:i*k+j<D.size*k:=by
     have:=u9 k (show i+1≤D.size from I)
     rw[Nat.add_mul,Nat.one_mul] at this;omega
   have hq:=hc' (i*k+j) W (by rw[hD] at W;omega)
   rw[show d.base+(i*k+j)=d.base+i*k+j by omega,ey,Nat.mul_comm i k,Nat.mul_add_div k0,Nat.div_eq_of_lt s,Nat.add_zero,Nat.mul_add_mod,Nat.mod_eq_of_lt s,getElem!_pos D i I,ar] at hq
   subst hq
   exact key D[i] j a ea s⟩
 exact⟨.ret (.bm []),_,g,⟨rfl,rfl⟩,.bm rfl fun k a x e=>by simp at e,i1.grow os,x1.trans (Ext.grow os)⟩
end Go.Eng

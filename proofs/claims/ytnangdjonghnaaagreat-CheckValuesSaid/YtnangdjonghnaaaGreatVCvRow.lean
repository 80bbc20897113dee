/- The statement CheckValues is proved, for every input; no conditions. -/
import Derived.Test.YtnangdjonghnaaaGreatVEngE
import Derived.Carry
import Derived.Test.YtnangdjonghnaaaGreatRows
import Derived.WalkKit
import Derived.ProofKit
import Derived.OpenShut
import Derived.Test.YtnangdjonghnaaaGreatVLaw
set_option linter.unusedVariables false
set_option linter.unusedSimpArgs false
namespace Go.Eng
open Go.ChangeShapes Go.WideShapes Go.RowKit
def gW (w:World):Gh:=⟨fun b=>match w.heap[b]? with | some (.cells c _ _)=>some c | _=>none,fun _=>none⟩
theorem X3 (w:World):Inv af.empty (gW w) w:=by
 refine⟨fun b c e=>?_,fun id o e=>by rw[af.di] at e;simp at e,fun id a o o' l l' e=>by rw[af.di] at e;simp at e,fun _ _=>rfl⟩
 simp only[gW] at e
 split at e
 · rename_i c' t fz h
   cases e
   exact⟨t,fz,h⟩
 · simp at e
variable {P : Program} {w : World} {v : Value}
theorem dc.X4 {f:FuncId}{l:List AV}{xs:Array Value}(h:dc P f l af.empty fun r g=>r=.ret (.sc v)∧g=af.empty)(k:fG (gW w) l xs) :
   Calls P f xs w fun e w' => e=.returned v∧w.keptBut w' (fun _=>False)∧∀ p:MemPlace,p.block<w.heap.size→w.sameAt w' p:=by
 refine(h _ w xs k (X3 w)).mono fun e w' ⟨r,g,g', ⟨m,_⟩,a,_,hx⟩=>?_
 have d:∀ i,i<w.heap.size→w'.heap[i]? = w.heap[i]? := fun i hi=>hx.gQ i hi fun id o l e=>by rw[af.di] at e;simp at e
 refine⟨?_,⟨hx.os,hx.output,fun i hi=>?_⟩,fun p j=>?_⟩
 · subst m
   cases e with
   | returned x=>cases a;rfl
   | panicked c=>exact a.elim
   | outgrown=>exact a.elim
 · rw[d i hi]
   split<;>simp_all
 · cases p with
   | cell b o=>exact World.cell?_of_block (w:=w) (d b j)
   | map b=>exact d b j
theorem Ji {b o:Nat}(h:w.cell? ⟨b,o,none⟩=some v):∃ c,(gW w).ro b=some c∧c[o]? = some v:=by
 simp only[World.cell?] at h
 split at h
 · rename_i c t fz a
   exact⟨c,by simp only[gW];rw[a],by simpa using h⟩
 · cases h
variable {H : Type} {enc : TypeId × Value → H} {base : Nat} {sp : Nat → Bool} {held : Bool} {t e : TypeId}
theorem VR.Ms {B:Nat}{k:Nat}{α:Type}{r:α→AV}{x:DataW H×List MemPlace}(N:P.underlying t=some (.slice e))(O:P.cellsOf e=k)(D:0<k)(p:∀ z,(r z).cells.length=k)(Q:∀ n cs y,DataW.trod enc P w base sp held n e cs=some y→∃ z:α,∀(j:Nat) (a:AV) (u:Value),(r z).cells[j]? = some a→cs[j]? = some u→VR (gW w) a u)(h:DataW.trod enc P w base sp held B t [v]=some x):∃ l:List α,VR (gW w) (.lit (l.map r)) v:=by
 rcases DataW.trod_slice N h with⟨q,_⟩ | ⟨a,len,cap,elems,rest,n,_,q,_,V,R,M,J,C,_⟩
 · cases q
   exact⟨[],.gG⟩
 cases q
 by_cases h0:len=0
 · subst h0
   exact⟨[],.gG⟩
 have d:∀ i,i<len→∃ cs:List Value,cs.length=k∧(∀ j,j<k→w.cell? ((a.add (i*k)).add j)=cs[j]?)∧∃ y,DataW.trod enc P w base sp held n e cs=some y:=fun i hi=>by
   have:=C i hi
   rw[oe (J▸hi),O] at this
   obtain⟨cs,h1,h2⟩:=Option.bind_eq_some_iff.1 this
   obtain⟨_,h3,h4⟩:=World.cells?_some h1
   exact⟨cs,h3,h4,_,h2⟩
 have K:a.spot=none:=by
   obtain⟨cs,h1,h2,_⟩:=d 0 (by omega)
   have:=h2 0 D
   rw[oe (h1▸D)] at this
   simpa [Addr.add] using World.cell?_spot this
 obtain⟨b,o,U⟩:=a
 cases K
 simp only[add_plain] at d
 obtain ⟨c,A⟩:∃ c,(gW w).ro b=some c:=by
   obtain⟨cs,h1,h2,_⟩:=d 0 (by omega)
   have:=h2 0 D
   rw[oe (h1▸D)] at this
   obtain⟨c,h,_⟩:=Ji this
   exact⟨c,h⟩
 have f:∀ i,i<len→∃ z:α,∀ j,j<k→∃ u,c[o+i*k+j]? = some u∧∀ a,(r z).cells[j]? = some a→VR (gW w) a u:=fun i hi=>by
   obtain⟨cs,h1,h2,y,h3⟩:=d i hi
   obtain⟨z,g⟩:=Q _ _ _ h3
   refine⟨z,fun j s=>?_⟩
   have:=h2 j s
   rw[oe (h1▸s)] at this
   obtain⟨c', h,S⟩:=Ji this
   cases A.symm.trans h
   exact⟨_,S,fun a E=>g j a _ E (oe (h1▸s))⟩
 refine⟨List.ofFn fun i:_root_.Fin len=>Classical.choose (f i.1 i.2),?_⟩
 have G:((List.ofFn fun i:_root_.Fin len=>Classical.choose (f i.1 i.2)).map r).length=len:=by simp
 conv=>rhs;rw[←G]
 refine VR.lit (sz:=k) A (fun e F=>?_) ?_ (by rw[G];exact R) fun i j e a u F E I=>?_
 · obtain⟨z,_,rfl⟩:=List.mem_map.1 F
   exact p z
 · rw[G]
   obtain⟨z,g⟩:=f (len-1) (by omega)
   obtain⟨u,I,_⟩:=g (k-1) (by omega)
   have:=(Array.getElem?_eq_some_iff.1 I).1
   have e:len*k=(len-1)*k+k:=by
     obtain⟨m,rfl⟩:∃ m,len=m+1:=⟨len-1,by omega⟩
     simp[Nat.succ_mul]
   omega
 · rw[List.getElem?_map,Option.map_eq_some_iff] at F
   obtain⟨z,g,rfl⟩:=F
   rw[List.getElem?_ofFn] at g
   split at g
   · rename_i hi
     cases g
     have s:j<k:=by
      have:=(List.getElem?_eq_some_iff.1 E).1
      rwa [p] at this
     obtain⟨W,L,T⟩:=Classical.choose_spec (f i hi) j s
     cases I.symm.trans L
     exact T a E
   · cases g
theorem VR.QE {k:IntKind}{r:Go.Reach}{i:Nat}{d:DataW H}{m:List MemPlace}(b:P.underlying t=some (.slice e))(o:P.underlying e=some (.int k))(p:P.cellsOf e=1)(q:Value.okWide P w r i t v)(h:DataW.Trod enc P w base sp held t v d m):∃ l:List Int,VR (gW w) (.lit (l.map (dX k))) v:=by
 obtain⟨a,n,c,rfl⟩:=okWide_slice b q
 obtain⟨f,h⟩:=h
 refine VR.Ms b p (by omega) (fun _=>rfl) (fun n cs y s=>?_) h
 obtain⟨z,rfl,_⟩:=DataW.trod_int o s
 refine⟨z,fun j a u g x=>?_⟩
 match j with
 | 0=>cases g;cases x;exact .sc rfl
 | j+1=>cases g
theorem Mt {n:Nat}{c d:Field}{cs:List Value}{y:DataW H×List MemPlace}(j:P.underlying t=some (.struct #[c,d]))(k:P.cellsOf t=2)(l:c.offset=0)(c0:P.cellsOf c.type=1)(o:d.offset=1)(c1:P.cellsOf d.type=1)(h:DataW.trod enc P w base sp held n t cs=some y) :
  ∃ a b f g m,cs=[a,b]∧DataW.trod enc P w base sp held m c.type [a]=some f∧DataW.trod enc P w base sp held m d.type [b]=some g:=by
 obtain⟨f,g,m,_,i,h0,h1⟩:=trod_struct2 j h
 rw[k] at i
 rw[l,c0] at h0
 rw[o,c1] at h1
 match cs,i,h0,h1 with
 | [a,b],_,h0,h1=>exact⟨a,b,f,g,m,rfl,h0,h1⟩
end Go.Eng
namespace Go.Proofs.YtnangdjonghnaaaGreat.checkValues
open Go.ChangeShapes Go.WideShapes Go.ChangeAt Go.RowKit
theorem own : ownKnob Tryz.prog.godebug=none:=by kernel_rfl
theorem laid : laidOutB Tryz.prog=true:=by kernel_rfl
variable {H : Type} {enc : TypeId × Value → H} {w : World} {base : Nat} {sp : Nat → Bool} {held : Bool} {v : Value}
theorem names {n:Nat}{y:DataW H×List MemPlace}(h:DataW.trod enc Tryz.prog w base sp held n 22 [v]=some y) :
  ∃ l:List Go.Eng.bK,Go.Eng.VR (Go.Eng.gW w) (.lit (l.map Go.Eng.bf)) v:=by
 refine Go.Eng.VR.Ms (k:=2) Tryz.underlying22 (by kernel_rfl) (by omega) (fun _=>rfl) (fun n cs y e=>?_) h
 obtain⟨a,b,f,g,m,rfl,h0,h1⟩:=Go.Eng.Mt Tryz.underlying35 (by kernel_rfl) rfl (by kernel_rfl) rfl (by kernel_rfl) e
 obtain⟨s,h0,_⟩:=DataW.trod_string Tryz.underlying9 h0
 obtain⟨z,h1,_⟩:=DataW.trod_int Tryz.underlying3 h1
 cases h0
 cases h1
 refine⟨⟨s,z⟩,fun j a u c d=>?_⟩
 match j with
 | 0=>cases c;cases d;exact .sc rfl
 | 1=>cases c;cases d;exact .sc rfl
 | j+2=>cases c
set_option maxRecDepth 100000 in
theorem sig {r:Reach}{g:Nat}{d:DataW H}{i:List MemPlace}(n:Value.okWide Tryz.prog w r g 24 v)(h:DataW.Trod enc Tryz.prog w base sp held 24 v d i):∃ s:Go.Eng.ae,Go.Eng.VR (Go.Eng.gW w) (Go.Eng.aG s) v:=by
 obtain⟨cs,rfl,t⟩:=okWide_struct Tryz.underlying24 n
 obtain⟨f,h⟩:=h
 obtain⟨a,b,x,y,m,o,h0,h1⟩:=Go.Eng.Mt Tryz.underlying24 (by kernel_rfl) rfl (by kernel_rfl) rfl (by kernel_rfl) h
 cases cs
 cases o
 obtain⟨l,p⟩:=names h0
 obtain⟨k,q⟩:=names h1
 refine⟨⟨l,k⟩,.agg rfl fun j a u c e=>?_⟩
 match j with
 | 0=>cases c;cases e;exact p
 | 1=>cases c;cases e;exact q
 | j+2=>cases c
set_option maxRecDepth 100000 in
theorem lifted (os:Os)(started:os.Started)(H:Type)(enc:TypeId×Value→H) :
  ReturnsInHanded {} Tryz.checked os 3 .any (Rows.checkValuesSpec.pre6 enc Tryz.prog Tryz.f3 Rows.checkValuesRow.domain false) (Rows.checkValuesSpec.post enc Tryz.prog Tryz.f3 false true false false):=by
 refine returnsInHanded_of_change (C:=Tryz.checked) own started (by kernel_rfl) Tryz.func3
  (ChangeSpec.witness6 (enc:=enc) (C:=Tryz.checked) false ⟨#[],#[.agg #[.slice none 0 0,.slice none 0 0],.slice none 0 0,.slice none 0 0,.int .i64 0],[]⟩ 8 (by kernel_rfl) (by kernel_rfl) (by kernel_rfl) (by kernel_rfl)) ?_
 intro W base args ds Y before f E J _
 have c:∀(j:Nat) t v,Tryz.f3.params[j]? = some t→args[j]? = some v→Value.okWide Tryz.prog W .any base t v:=f
 have n:=E
 obtain⟨p,q,o,K,rfl,V,X⟩:=E
 have F:DataW.TrodAll enc Tryz.prog W 0 (fun _=>true) true Tryz.f3.params.toList args.toList ds p:=o
 have g:=fun x hx=>n.lt x hx
 rw[Tryz.params3] at F c
 obtain⟨v0,v1,G,v3,Z,d1,d2,d3,L,M,N,p3,rfl,rfl,rfl,h0,h1,h2,h3⟩:=trodAll_four F
 obtain⟨rfl,rfl⟩:=trodVars_none K
 clear o f
 obtain⟨s,O⟩:=sig (c 0 24 v0 rfl rfl) h0
 obtain⟨l1,y⟩:=Go.Eng.VR.QE Tryz.underlying25 Tryz.underlying3 (by kernel_rfl) (c 1 25 v1 rfl rfl) h1
 obtain⟨l2,A⟩:=Go.Eng.VR.QE Tryz.underlying25 Tryz.underlying3 (by kernel_rfl) (c 2 25 G rfl rfl) h2
 obtain⟨z,P,B,D,wz⟩:=open_int Tryz.underlying3 (c 3 3 v3 rfl rfl) h3
 subst P B D
 have i:Go.Eng.fG (Go.Eng.gW W) [Go.Eng.aG s,Go.Eng.aN l1,Go.Eng.aN l2,Go.Eng.aI z] #[v0,v1,G,.int .i64 z]:=⟨rfl,fun k a x m hx=>by
  match k with
  | 0=>cases m;cases hx;exact O
  | 1=>cases m;cases hx;exact y
  | 2=>cases m;cases hx;exact A
  | 3=>cases m;cases hx;exact .sc rfl
  | k+4=>cases m⟩
 refine(Go.Eng.dc.X4 (Go.Eng.wx s l1 l2 z true (Go.Eng.NC s l1 l2 z rfl) Go.Eng.af.empty) i).mono fun e Q ⟨R,S,l⟩=>?_
 subst R
 have T:∀ {t:TypeId} {v:Value} {d:DataW H} {u:List MemPlace},Tryz.prog.readableRec t=true→t < Tryz.prog.types.size→DataW.Trod enc Tryz.prog W 0 (fun _=>true) true t v d u→(∀ x∈u,x.block<W.heap.size)→DataW.Trod enc Tryz.prog Q 0 (fun b=>decide (b<W.heap.size)) true t v d u:=
  fun U r h I=>WideElems.Trod_stays laid U r h (fun x hx=>l x (I x hx)) fun x hx=>by simpa using I x hx
 refine⟨_,rfl,_,_,_,[],L++(M++(N++[])),[],n,trodAll_cons_mk (shut_bool Tryz.underlying4 _) trodAll_mk0,?_,rfl,World.keptBut_mono (fun _ (h:False)=>h.elim) S,fun h=>by cases h⟩
 exact (show Tryz.f3.params.toList=[24,25,25,3] by rw[Tryz.params3])▸trodAll_mk4 (T (by kernel_rfl) (of_decide_eq_true (by kernel_rfl)) h0 fun x hx=>g x (by simp[hx])) (T (by kernel_rfl) (of_decide_eq_true (by kernel_rfl)) h1 fun x hx=>g x (by simp[hx]))
  (T (by kernel_rfl) (of_decide_eq_true (by kernel_rfl)) h2 fun x hx=>g x (by simp[hx])) (T (by kernel_rfl) (of_decide_eq_true (by kernel_rfl)) h3 fun x hx=>by simp at hx)
theorem X5 : Tryz.pinned.checked.prog.funcNamed Rows.checkValuesRow.func=some 3:=by kernel_rfl
theorem k1 : laidOutB Tryz.pinned.checked.prog=true:=by kernel_rfl
theorem k2 : mapsRowed Tryz.pinned.checked.prog=true:=by kernel_rfl
theorem k3 : (Tryz.pinned.checked.prog.stops==[])=true:=by kernel_rfl
theorem k4 : (Tryz.pinned.checked.prog.stopKnobs==[])=true:=by kernel_rfl
theorem k5 : (Rows.checkValuesRow.inPlace == Tryz.pinned.checked.prog.inPlace 3)=true:=by kernel_rfl
theorem k6 : (Rows.checkValuesRow.unfollowed == Tryz.pinned.checked.prog.unfollowed 3)=true:=by kernel_rfl
theorem k7 : (Rows.checkValuesRow.recurses == Tryz.pinned.checked.prog.recurses 3)=true:=by kernel_rfl
theorem k8 : (Rows.checkValuesRow.named == Tryz.pinned.checked.prog.varsNamed 3)=true:=by kernel_rfl
theorem k9 : (Rows.checkValuesRow.plainKeys == Tryz.pinned.checked.prog.plainKeys)=true:=by kernel_rfl
theorem atm : Tryz.pinned.checked.prog.stopsHeard=true:=by kernel_rfl
theorem atn : Tryz.pinned.checked.prog.mayEnter=true:=by kernel_rfl
theorem ato : (Rows.checkValuesRow.lifted == Tryz.pinned.checked.prog.liftsFinal)=true:=by kernel_rfl
theorem facts : joinedFacts Tryz.pinned.checked.prog 3 Tryz.f3 Rows.checkValuesSpec Rows.checkValuesRow=true:=by
 unfold joinedFacts
 rw[k1,k2,k3,k4,k5,k6,k7,k8,k9,atm,atn,ato]
 kernel_rfl
theorem inst : Tryz.f3.isInstance Tryz.pinned.checked.prog Rows.checkValuesRow.origin Rows.checkValuesRow.targs:=of_decide_eq_true (by kernel_rfl)
theorem wrap : Tryz.f3.isWrapper Tryz.pinned.checked.prog Rows.checkValuesRow.wrapper Rows.checkValuesRow.mainSum:=by
 unfold Func.isWrapper;first | (rw[if_pos (by decide +kernel)];kernel_rfl) | (rw[if_neg (by decide +kernel)];exact⟨rfl,rfl⟩)
theorem jg : Rows.checkValuesRow.holds Tryz.pinned (OpenSpec.ofChange Rows.checkValuesSpec):=
 OpenClaim.holds_of_wide 3 Tryz.f3 rfl rfl rfl rfl rfl rfl rfl ⟨rfl,rfl,rfl,rfl,rfl⟩ rfl rfl rfl rfl rfl X5 Tryz.func3 facts inst wrap
  (fun os started H enc _=>lifted os started H enc)
theorem proved : Rows.CheckValuesSaid:=
 jg
end Go.Proofs.YtnangdjonghnaaaGreat.checkValues

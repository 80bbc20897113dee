/- The statement CheckMakes is proved, for every input; no conditions. -/
import Derived.Test.YtehhcejekfibpaaGreatVEngE
import Derived.Carry
import Derived.Test.YtehhcejekfibpaaGreatRows
import Derived.WalkKit
import Derived.ProofKit
import Derived.OpenShut
import Derived.Test.YtehhcejekfibpaaGreatVLaw
set_option linter.unusedVariables false
set_option linter.unusedSimpArgs false
namespace Go.Eng
open Go.ChangeShapes Go.WideShapes Go.RowKit
def gW (w:World):Gh:=⟨fun b=>match w.heap[b]? with | some (.cells c _ _)=>some c | _=>none,fun _=>none⟩
theorem XW (w:World):Inv af.empty (gW w) w:=by
 refine⟨fun b c e=>?_,fun id o e=>by rw[af.cS] at e;simp at e,fun id a o o' l l' e=>by rw[af.cS] at e;simp at e,fun _ _=>rfl⟩
 simp only[gW] at e
 split at e
 · rename_i c' t fz h
   cases e
   exact⟨t,fz,h⟩
 · simp at e
variable {P : Program} {w : World} {v : Value}
theorem cL.XX {f:FuncId}{l:List AV}{xs:Array Value}(h:cL P f l af.empty fun r g=>r=.ret (.sc v)∧g=af.empty)(m:fe (gW w) l xs) :
   Calls P f xs w fun e w' => e=.returned v∧w.keptBut w' (fun _=>False)∧∀ p:MemPlace,p.block<w.heap.size→w.sameAt w' p:=by
 refine(h _ w xs m (XW w)).mono fun e w' ⟨r,g,g', ⟨n,_⟩,a,_,hx⟩=>?_
 have d:∀ i,i<w.heap.size→w'.heap[i]? = w.heap[i]? := fun i hi=>hx.gw i hi fun id o l e=>by rw[af.cS] at e;simp at e
 refine⟨?_,⟨hx.os,hx.output,fun i hi=>?_⟩,fun p j=>?_⟩
 · subst n
   cases e with
   | returned x=>cases a;rfl
   | panicked c=>exact a.elim
   | outgrown=>exact a.elim
 · rw[d i hi]
   split<;>simp_all
 · cases p with
   | cell b o=>exact World.cell?_of_block (w:=w) (d b j)
   | map b=>exact d b j
theorem IP {b o:Nat}(h:w.cell? ⟨b,o,none⟩=some v):∃ c,(gW w).ro b=some c∧c[o]? = some v:=by
 simp only[World.cell?] at h
 split at h
 · rename_i c t fz a
   exact⟨c,by simp only[gW];rw[a],by simpa using h⟩
 · cases h
variable {H : Type} {enc : TypeId × Value → H} {base : Nat} {sp : Nat → Bool} {held : Bool} {fuel : Nat} {t e : TypeId} {k : Nat} {α : Type} {en : α → AV} {x : DataW H × List MemPlace}
theorem VR.L7 (L:P.underlying t=some (.slice e))(M:P.cellsOf e=k)(B:0<k)(p:∀ z,(en z).cells.length=k)(N:∀ n cs y,n<fuel→DataW.trod enc P w base sp held n e cs=some y→∃ z:α,∀(j:Nat) (a:AV) (u:Value),(en z).cells[j]? = some a→cs[j]? = some u→VR (gW w) a u)(h:DataW.trod enc P w base sp held fuel t [v]=some x):∃ l:List α,VR (gW w) (.lit (l.map en)) v:=by
 rcases DataW.trod_slice L h with⟨q,_⟩ | ⟨a,len,cap,elems,rest,n,S,q,_,U,O,K,G,A,_⟩
 · cases q
   exact⟨[],.gi⟩
 cases q
 by_cases h0:len=0
 · subst h0
   exact⟨[],.gi⟩
 have d:∀ i,i<len→∃ cs:List Value,cs.length=k∧(∀ j,j<k→w.cell? ((a.add (i*k)).add j)=cs[j]?)∧∃ y,DataW.trod enc P w base sp held n e cs=some y:=fun i hi=>by
   have:=A i hi
   rw[nA (G▸hi),M] at this
   obtain⟨cs,h1,h2⟩:=Option.bind_eq_some_iff.1 this
   obtain⟨_,h3,h4⟩:=World.cells?_some h1
   exact⟨cs,h3,h4,_,h2⟩
 have I:a.spot=none:=by
   obtain⟨cs,h1,h2,_⟩:=d 0 (by omega)
   have:=h2 0 B
   rw[nA (h1▸B)] at this
   simpa [Addr.add] using World.cell?_spot this
 obtain⟨b,o,T⟩:=a
 cases I
 simp only[add_plain] at d
 obtain ⟨c,s⟩:∃ c,(gW w).ro b=some c:=by
   obtain⟨cs,h1,h2,_⟩:=d 0 (by omega)
   have:=h2 0 B
   rw[nA (h1▸B)] at this
   obtain⟨c,h,_⟩:=IP this
   exact⟨c,h⟩
 have f:∀ i,i<len→∃ z:α,∀ j,j<k→∃ u,c[o+i*k+j]? = some u∧∀ a,(en z).cells[j]? = some a→VR (gW w) a u:=fun i hi=>by
   obtain⟨cs,h1,h2,y,h3⟩:=d i hi
   obtain⟨z,g⟩:=N _ _ _ (by omega) h3
   refine⟨z,fun j r=>?_⟩
   have:=h2 j r
   rw[nA (h1▸r)] at this
   obtain⟨c', h,Q⟩:=IP this
   cases s.symm.trans h
   exact⟨_,Q,fun a C=>g j a _ C (nA (h1▸r))⟩
 refine⟨List.ofFn fun i:_root_.Fin len=>Classical.choose (f i.1 i.2),?_⟩
 have E:((List.ofFn fun i:_root_.Fin len=>Classical.choose (f i.1 i.2)).map en).length=len:=by simp
 conv=>rhs;rw[←E]
 refine VR.lit (sz:=k) s (fun e D=>?_) ?_ (by rw[E];exact O) fun i j e a u D C F=>?_
 · obtain⟨z,_,rfl⟩:=List.mem_map.1 D
   exact p z
 · rw[E]
   obtain⟨z,g⟩:=f (len-1) (by omega)
   obtain⟨u,F,_⟩:=g (k-1) (by omega)
   have:=(Array.getElem?_eq_some_iff.1 F).1
   have e:len*k=(len-1)*k+k:=by
     obtain⟨m,rfl⟩:∃ m,len=m+1:=⟨len-1,by omega⟩
     simp[Nat.succ_mul]
   omega
 · rw[List.getElem?_map,Option.map_eq_some_iff] at D
   obtain⟨z,g,rfl⟩:=D
   rw[List.getElem?_ofFn] at g
   split at g
   · rename_i hi
     cases g
     have r:j<k:=by
      have:=(List.getElem?_eq_some_iff.1 C).1
      rwa [p] at this
     obtain⟨V,J,R⟩:=Classical.choose_spec (f i hi) j r
     cases F.symm.trans J
     exact R a C
   · cases g
theorem VR.L8 (c:P.underlying t=some (.slice e))(d:P.cellsOf e=k)(f:0<k)(b:∀ z,(en z).cells.length=k)(g:∀ n cs y,DataW.trod enc P w base sp held n e cs=some y→∃ z:α,∀(j:Nat) (a:AV) (u:Value),(en z).cells[j]? = some a→cs[j]? = some u→VR (gW w) a u)(h:DataW.trod enc P w base sp held fuel t [v]=some x):∃ l:List α,VR (gW w) (.lit (l.map en)) v:=VR.L7 c d f b (fun n cs y _=>g n cs y) h
theorem VR.Qq {k:IntKind}{r:Go.Reach}{i:Nat}{d:DataW H}{m:List MemPlace}(b:P.underlying t=some (.slice e))(o:P.underlying e=some (.int k))(p:P.cellsOf e=1)(q:Value.okWide P w r i t v)(h:DataW.Trod enc P w base sp held t v d m):∃ l:List Int,VR (gW w) (.lit (l.map (dO k))) v:=by
 obtain⟨a,n,c,rfl⟩:=okWide_slice b q
 obtain⟨f,h⟩:=h
 refine VR.L8 b p (by omega) (fun _=>rfl) (fun n cs y s=>?_) h
 obtain⟨z,rfl,_⟩:=DataW.trod_int o s
 refine⟨z,fun j a u g A=>?_⟩
 match j with
 | 0=>cases g;cases A;exact .sc rfl
 | j+1=>cases g
variable {f0 f1 : Field}
theorem L9 {n:Nat}{cs:List Value}{y:DataW H×List MemPlace}(g:P.underlying t=some (.struct #[f0,f1]))(i:P.cellsOf t=2)(j:f0.offset=0)(c0:P.cellsOf f0.type=1)(l:f1.offset=1)(c1:P.cellsOf f1.type=1)(h:DataW.trod enc P w base sp held n t cs=some y) :
  ∃ a b c d m,cs=[a,b]∧DataW.trod enc P w base sp held m f0.type [a]=some c∧DataW.trod enc P w base sp held m f1.type [b]=some d:=by
 obtain⟨c,d,m,_,f,h0,h1⟩:=trod_struct2 g h
 rw[i] at f
 rw[j,c0] at h0
 rw[l,c1] at h1
 match cs,f,h0,h1 with
 | [a,b],_,h0,h1=>exact⟨a,b,c,d,m,rfl,h0,h1⟩
theorem abK {d:Field}{r k1:IntKind}(mk:Int→Int→List α→α)(A:P.underlying t=some (.struct #[f0,f1,d]))(s:P.cellsOf t=3)(B:f0.offset=0)(C:f1.offset=1)(D:d.offset=2)(c0:P.cellsOf f0.type=1)(c1:P.cellsOf f1.type=1)(c2:P.cellsOf d.type=1)(E:P.underlying f0.type=some (.int r))(F:P.underlying f1.type=some (.int k1))(G:P.underlying d.type=some (.slice t))(q:∀ a b l,(en (mk a b l)).cells=[.sc (.int r a),.sc (.int k1 b),.lit (l.map en)])(I:∀ z,(en z).cells.length=3) :
   ∀(fuel:Nat) (cs:List Value) (y:DataW H×List MemPlace),DataW.trod enc P w base sp held fuel t cs=some y→∃ z:α,∀(j:Nat) (a:AV) (u:Value),(en z).cells[j]? = some a→cs[j]? = some u→VR (gW w) a u:=by
 intro fuel
 induction fuel using Nat.strongRecOn with
 | ind fuel J=>
   intro cs y h
   obtain⟨xs,n,Q,rfl,g,i,o⟩:=DataW.trod_struct A h
   match xs,i with
   | [R,S,T],_=>
     have h0:=o 0 f0 rfl
     have h1:=o 1 f1 rfl
     have h2:=o 2 d rfl
     rw[B,c0] at h0
     rw[C,c1] at h1
     rw[D,c2] at h2
     rw[s] at g
     match cs,g,h0,h1,h2 with
     | [a,b,c],_,h0,h1,h2=>
       obtain⟨z0,K,_⟩:=DataW.trod_int E h0
       obtain⟨L,M,_⟩:=DataW.trod_int F h1
       cases K
       cases M
       obtain⟨l,N⟩:=VR.L7 (en:=en) G s (by omega) I (fun m cs y U O=>J m (by omega) cs y O) h2
       refine⟨mk z0 L l,fun j a u f p=>?_⟩
       rw[q] at f
       match j with
       | 0=>cases f;cases p;exact .sc rfl
       | 1=>cases f;cases p;exact .sc rfl
       | 2=>cases f;cases p;exact N
       | j+3=>cases f
end Go.Eng
namespace Go.Proofs.YtehhcejekfibpaaGreat.checkMakes
open Go.ChangeShapes Go.WideShapes Go.ChangeAt Go.RowKit
theorem own : ownKnob Tryz.prog.godebug=none:=by kernel_rfl
theorem laid : laidOutB Tryz.prog=true:=by kernel_rfl
section
variable {H : Type} {enc : TypeId × Value → H} {P : Program} {w : World} {base : Nat} {spare : Nat → Bool} {held : Bool}
variable {ps : List MemPlace}
theorem ap5 {t A f t3 t4:TypeId}{args:Array Value}{ds:List (DataW H)}(h:DataW.TrodAll enc P w base spare held [t,A,f,t3,t4] args.toList ds ps) :
  ∃ v i b v3 v4 d j c k l p m e n o,args = #[v,i,b,v3,v4]∧ds=[d,j,c,k,l]∧ps=p++(m++(e++(n++o)))∧DataW.Trod enc P w base spare held t v d p∧DataW.Trod enc P w base spare held A i j m∧DataW.Trod enc P w base spare held f b c e∧DataW.Trod enc P w base spare held t3 v3 k n∧DataW.Trod enc P w base spare held t4 v4 l o:=by
 obtain⟨v,M,d,E,p,q,y,rfl,rfl,D,a⟩:=trodAll_cons h
 obtain⟨i,F,j,B,m,N,rfl,rfl,rfl,s,a⟩:=trodAll_cons a
 obtain⟨b,C,c,z,e,G,rfl,rfl,rfl,g,a⟩:=trodAll_cons a
 obtain⟨v3,I,k,J,n,O,rfl,rfl,rfl,u,a⟩:=trodAll_cons a
 obtain⟨v4,K,l,L,o,Q,rfl,rfl,rfl,x,a⟩:=trodAll_cons a
 obtain⟨rfl,rfl,rfl⟩:=trodAll_nil a
 exact⟨v,i,b,v3,v4,d,j,c,k,l,p,m,e,n,o,by cases args;simp_all,rfl,by simp,D,s,g,u,x⟩
end
variable {H : Type} {enc : TypeId × Value → H} {w : World} {base : Nat} {sp : Nat → Bool} {held : Bool} {v : Value}
theorem names {n:Nat}{y:DataW H×List MemPlace}(h:DataW.trod enc Tryz.prog w base sp held n 22 [v]=some y) :
  ∃ l:List Go.Eng.bN,Go.Eng.VR (Go.Eng.gW w) (.lit (l.map Go.Eng.aR)) v:=by
 refine Go.Eng.VR.L8 (k:=2) Tryz.underlying22 (by kernel_rfl) (by omega) (fun _=>rfl) (fun n cs y f=>?_) h
 obtain⟨a,b,g,i,m,rfl,h0,h1⟩:=Go.Eng.L9 Tryz.underlying44 (by kernel_rfl) rfl (by kernel_rfl) rfl (by kernel_rfl) f
 obtain⟨s,h0,_⟩:=DataW.trod_string Tryz.underlying9 h0
 obtain⟨z,h1,_⟩:=DataW.trod_int Tryz.underlying3 h1
 cases h0
 cases h1
 refine⟨⟨s,z⟩,fun j a u c e=>?_⟩
 match j with
 | 0=>cases c;cases e;exact .sc rfl
 | 1=>cases c;cases e;exact .sc rfl
 | j+2=>cases c
variable {ps : List MemPlace} {r : Reach} {b0 : Nat} {d : DataW H}
set_option maxRecDepth 100000 in
theorem sig (g:Value.okWide Tryz.prog w r b0 24 v)(h:DataW.Trod enc Tryz.prog w base sp held 24 v d ps):∃ s:Go.Eng.ae,Go.Eng.VR (Go.Eng.gW w) (Go.Eng.aG s) v:=by
 obtain⟨cs,rfl,p⟩:=okWide_struct Tryz.underlying24 g
 obtain⟨f,h⟩:=h
 obtain⟨a,b,q,t,m,i,h0,h1⟩:=Go.Eng.L9 Tryz.underlying24 (by kernel_rfl) rfl (by kernel_rfl) rfl (by kernel_rfl) h
 cases cs
 cases i
 obtain⟨l,n⟩:=names h0
 obtain⟨k,o⟩:=names h1
 refine⟨⟨l,k⟩,.agg rfl fun j a u c e=>?_⟩
 match j with
 | 0=>cases c;cases e;exact n
 | 1=>cases c;cases e;exact o
 | j+2=>cases c
set_option maxRecDepth 100000 in
theorem term (e:Value.okWide Tryz.prog w r b0 29 v)(h:DataW.Trod enc Tryz.prog w base sp held 29 v d ps):∃ t:Go.Eng.Term,Go.Eng.VR (Go.Eng.gW w) (Go.Eng.aK t) v:=by
 obtain⟨cs,rfl,g⟩:=okWide_struct Tryz.underlying29 e
 obtain⟨f,h⟩:=h
 obtain⟨t,c⟩:=Go.Eng.abK (en:=Go.Eng.aj) Go.Eng.Term.mk Tryz.underlying29 (by kernel_rfl) rfl rfl rfl (by kernel_rfl) (by kernel_rfl) (by kernel_rfl) Tryz.underlying26 Tryz.underlying3 Tryz.underlying27 (fun a b l=>Go.Eng.jd _) Go.Eng.cT _ _ _ h
 rw[Go.Eng.jd] at c
 exact⟨t,.agg (by rw[g];kernel_rfl) fun j a u i k=>c j a u i (by simpa[Value.cells] using k)⟩
set_option maxRecDepth 100000 in
theorem lifted (os:Os)(started:os.Started)(H:Type)(enc:TypeId×Value→H) :
  ReturnsInHanded {} Tryz.checked os 3 .any (Rows.checkMakesSpec.pre6 enc Tryz.prog Tryz.f3 Rows.checkMakesRow.domain false) (Rows.checkMakesSpec.post enc Tryz.prog Tryz.f3 false true false false):=by
 refine returnsInHanded_of_change (C:=Tryz.checked) own started (by kernel_rfl) Tryz.func3
  (ChangeSpec.witness6 (enc:=enc) (C:=Tryz.checked) false ⟨#[],#[.agg #[.slice none 0 0,.slice none 0 0],.slice none 0 0,.slice none 0 0,.int .i64 0,.agg #[.int .i64 0,.int .i64 0,.slice none 0 0]],[]⟩ 8 (by kernel_rfl) (by kernel_rfl) (by kernel_rfl) (by kernel_rfl)) ?_
 intro W base args ds gs before f F K _
 have c:∀(j:Nat) t v,Tryz.f3.params[j]? = some t→args[j]? = some v→Value.okWide Tryz.prog W .any base t v:=f
 have n:=F
 obtain⟨p,q,o,L,rfl,Z,hnd⟩:=F
 have G:DataW.TrodAll enc Tryz.prog W 0 (fun _=>true) true Tryz.f3.params.toList args.toList ds p:=o
 have g:=fun x hx=>n.lt x hx
 rw[Tryz.params3] at G c
 obtain⟨v0,v1,I,v3,v4,d0,d1,d2,d3,d4,M,N,O,p3,Q,rfl,rfl,rfl,h0,h1,h2,h3,h4⟩:=ap5 G
 obtain⟨rfl,rfl⟩:=trodVars_none L
 clear o f
 obtain⟨s,R⟩:=sig (c 0 24 v0 rfl rfl) h0
 obtain⟨l1,y⟩:=Go.Eng.VR.Qq Tryz.underlying25 Tryz.underlying3 (by kernel_rfl) (c 1 25 v1 rfl rfl) h1
 obtain⟨l2,A⟩:=Go.Eng.VR.Qq Tryz.underlying25 Tryz.underlying3 (by kernel_rfl) (c 2 25 I rfl rfl) h2
 obtain⟨z,S,B,D,wz⟩:=open_int Tryz.underlying3 (c 3 3 v3 rfl rfl) h3
 subst S B D
 obtain⟨t4,E⟩:=term (c 4 29 v4 rfl rfl) h4
 have i:Go.Eng.fe (Go.Eng.gW W) [Go.Eng.aG s,Go.Eng.aN l1,Go.Eng.aN l2,Go.Eng.aI z,Go.Eng.aK t4] #[v0,v1,I,.int .i64 z,v4]:=⟨rfl,fun k a x m hx=>by
  match k with
  | 0=>cases m;cases hx;exact R
  | 1=>cases m;cases hx;exact y
  | 2=>cases m;cases hx;exact A
  | 3=>cases m;cases hx;exact .sc rfl
  | 4=>cases m;cases hx;exact E
  | k+5=>cases m⟩
 refine(Go.Eng.cL.XX (Go.Eng.wO s l1 l2 z t4 true (Go.Eng.HW s l1 l2 z t4 rfl) Go.Eng.af.empty) i).mono fun e U ⟨V,X,l⟩=>?_
 subst V
 have T:∀ {t:TypeId} {v:Value} {d:DataW H} {ps:List MemPlace},Tryz.prog.readableRec t=true→t < Tryz.prog.types.size→DataW.Trod enc Tryz.prog W 0 (fun _=>true) true t v d ps→(∀ x∈ps,x.block<W.heap.size)→DataW.Trod enc Tryz.prog U 0 (fun b=>decide (b<W.heap.size)) true t v d ps:=
  fun Y u h J=>WideElems.Trod_stays laid Y u h (fun x hx=>l x (J x hx)) fun x hx=>by simpa using J x hx
 refine⟨_,rfl,_,_,_,[],M++(N++(O++([]++(Q++[])))),[],n,trodAll_cons_mk (shut_bool Tryz.underlying4 _) trodAll_mk0,?_,rfl,World.keptBut_mono (fun _ (h:False)=>h.elim) X,fun h=>by cases h⟩
 exact (show Tryz.f3.params.toList=[24,25,25,3,29] by rw[Tryz.params3])▸trodAll_cons_mk (T (by kernel_rfl) (of_decide_eq_true (by kernel_rfl)) h0 fun x hx=>g x (by simp[hx])) (trodAll_cons_mk (T (by kernel_rfl) (of_decide_eq_true (by kernel_rfl)) h1 fun x hx=>g x (by simp[hx]))
  (trodAll_cons_mk (T (by kernel_rfl) (of_decide_eq_true (by kernel_rfl)) h2 fun x hx=>g x (by simp[hx])) (trodAll_cons_mk (T (by kernel_rfl) (of_decide_eq_true (by kernel_rfl)) h3 fun x hx=>by simp at hx)
  (trodAll_cons_mk (T (by kernel_rfl) (of_decide_eq_true (by kernel_rfl)) h4 fun x hx=>g x (by simp[hx])) trodAll_mk0))))
theorem XY : Tryz.pinned.checked.prog.funcNamed Rows.checkMakesRow.func=some 3:=by kernel_rfl
theorem k1 : laidOutB Tryz.pinned.checked.prog=true:=by kernel_rfl
theorem k2 : mapsRowed Tryz.pinned.checked.prog=true:=by kernel_rfl
theorem k3 : (Tryz.pinned.checked.prog.stops==[])=true:=by kernel_rfl
theorem k4 : (Tryz.pinned.checked.prog.stopKnobs==[])=true:=by kernel_rfl
theorem k5 : (Rows.checkMakesRow.inPlace == Tryz.pinned.checked.prog.inPlace 3)=true:=by kernel_rfl
theorem k6 : (Rows.checkMakesRow.unfollowed == Tryz.pinned.checked.prog.unfollowed 3)=true:=by kernel_rfl
theorem k7 : (Rows.checkMakesRow.recurses == Tryz.pinned.checked.prog.recurses 3)=true:=by kernel_rfl
theorem k8 : (Rows.checkMakesRow.named == Tryz.pinned.checked.prog.varsNamed 3)=true:=by kernel_rfl
theorem k9 : (Rows.checkMakesRow.plainKeys == Tryz.pinned.checked.prog.plainKeys)=true:=by kernel_rfl
theorem as2 : Tryz.pinned.checked.prog.stopsHeard=true:=by kernel_rfl
theorem as3 : Tryz.pinned.checked.prog.mayEnter=true:=by kernel_rfl
theorem as4 : (Rows.checkMakesRow.lifted == Tryz.pinned.checked.prog.liftsFinal)=true:=by kernel_rfl
theorem facts : joinedFacts Tryz.pinned.checked.prog 3 Tryz.f3 Rows.checkMakesSpec Rows.checkMakesRow=true:=by
 unfold joinedFacts
 rw[k1,k2,k3,k4,k5,k6,k7,k8,k9,as2,as3,as4]
 kernel_rfl
theorem inst : Tryz.f3.isInstance Tryz.pinned.checked.prog Rows.checkMakesRow.origin Rows.checkMakesRow.targs:=of_decide_eq_true (by kernel_rfl)
theorem wrap : Tryz.f3.isWrapper Tryz.pinned.checked.prog Rows.checkMakesRow.wrapper Rows.checkMakesRow.mainSum:=by
 unfold Func.isWrapper;first | (rw[if_pos (by decide +kernel)];kernel_rfl) | (rw[if_neg (by decide +kernel)];exact⟨rfl,rfl⟩)
theorem iJ : Rows.checkMakesRow.holds Tryz.pinned (OpenSpec.ofChange Rows.checkMakesSpec):=
 OpenClaim.holds_of_wide 3 Tryz.f3 rfl rfl rfl rfl rfl rfl rfl ⟨rfl,rfl,rfl,rfl,rfl⟩ rfl rfl rfl rfl rfl XY Tryz.func3 facts inst wrap
  (fun os started H enc _=>lifted os started H enc)
theorem proved : Rows.CheckMakesSaid:=
 iJ
end Go.Proofs.YtehhcejekfibpaaGreat.checkMakes

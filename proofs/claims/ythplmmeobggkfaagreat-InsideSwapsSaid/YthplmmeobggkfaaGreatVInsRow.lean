/- InsideSwaps is true for every input; no conditions. -/
import Derived.Test.YthplmmeobggkfaaGreatVEngF
import Derived.Carry
import Derived.Test.YthplmmeobggkfaaGreatRows
import Derived.WalkKit
import Derived.ProofKit
import Derived.OpenShut
import Derived.Test.YthplmmeobggkfaaGreatVLaw
set_option linter.all false
namespace Go.Eng
open Go.ChangeShapes Go.WideShapes Go.RowKit
def gW (w:World):Gh:=⟨fun b=>match w.heap[b]? with | some (.cells c _ _)=>some c | _=>none,fun _=>none⟩
theorem ae0 (w:World):Inv ag.empty (gW w) w:=by
 refine⟨fun b c e=>?_,fun id o e=>by rw[ag.fN] at e;simp at e,fun id a o o' l l' e=>by rw[ag.fN] at e;simp at e,fun _ _=>rfl⟩
 simp only[gW] at e
 split at e
 all_goals simp_all
variable {P : Program} {w : World} {v : Value}
theorem fY.ae1 {f:FuncId}{l:List AV}{xs:Array Value}(h:fY P f l ag.empty fun r d=>r=.ret (.sc v)∧d=ag.empty)(j:hM (gW w) l xs) :
   Calls P f xs w fun e w' => e=.returned v∧w.keptBut w' (fun _=>False)∧∀ p:MemPlace,p.block<w.heap.size→w.sameAt w' p:=by
 refine(h _ w xs j (ae0 w)).mono fun e w' ⟨r,d,g', ⟨m,_⟩,a,_,hx⟩=>?_
 have hb:∀ i,i<w.heap.size→w'.heap[i]? = w.heap[i]? := fun i hi=>hx.jr i hi fun id o l e=>by rw[ag.fN] at e;simp at e
 refine⟨?_,⟨hx.os,hx.output,fun i hi=>?_⟩,fun p g=>?_⟩
 · subst m
   cases e with
   | returned x=>cases a;rfl
   | panicked c=>exact a.elim
   | outgrown=>exact a.elim
 · rw[hb i hi]
   split<;>simp_all
 · cases p with
   | cell b o=>exact World.cell?_of_block (w:=w) (hb b g)
   | map b=>exact hb b g
theorem Q8 {b o:Nat}(h:w.cell? ⟨b,o,none⟩=some v):∃ c,(gW w).ro b=some c∧c[o]? = some v:=by
 simp only[World.cell?] at h
 split at h
 all_goals simp_all[gW]
variable {H : Type} {enc : TypeId × Value → H} {base : Nat} {sp : Nat → Bool} {held : Bool} {fuel : Nat} {t e : TypeId} {k : Nat} {α : Type} {en : α → AV} {x : DataW H × List MemPlace}
theorem VR.zI (K:P.underlying t=some (.slice e))(L:P.cellsOf e=k)(C:0<k)(p:∀ z,(en z).cells.length=k)(M:∀ n cs y,n<fuel→DataW.trod enc P w base sp held n e cs=some y→∃ z:α,∀(j:Nat) (a:AV) (u:Value),(en z).cells[j]? = some a→cs[j]? = some u→VR (gW w) a u)(h:DataW.trod enc P w base sp held fuel t [v]=some x):∃ l:List α,VR (gW w) (.lit (l.map en)) v∧l.length≤maxLen:=by
 rcases DataW.trod_slice K h with⟨q,_⟩ | ⟨a,len,cap,elems,rest,n,R,q,_,hb,J,A,F,B,_⟩
 · cases q
   exact⟨[],.jZ,bU _⟩
 cases q
 by_cases N:len=0
 · subst N
   exact⟨[],.jZ,bU _⟩
 have d:∀ i,i<len→∃ cs:List Value,cs.length=k∧(∀ j,j<k→w.cell? ((a.add (i*k)).add j)=cs[j]?)∧∃ y,DataW.trod enc P w base sp held n e cs=some y:=fun i hi=>by
   have:=B i hi
   rw[qm (F▸hi),L] at this
   obtain⟨cs,h1,h2⟩:=Option.bind_eq_some_iff.1 this
   obtain⟨_,h3,h4⟩:=World.cells?_some h1
   exact⟨cs,h3,h4,_,h2⟩
 have G:a.spot=none:=by
   obtain⟨cs,h1,h2,_⟩:=d 0 (by omega)
   have:=h2 0 C
   rw[qm (h1▸C)] at this
   simpa [Addr.add] using World.cell?_spot this
 obtain⟨b,o,S⟩:=a
 cases G
 simp only[add_plain] at d
 obtain ⟨c,s⟩:∃ c,(gW w).ro b=some c:=by
   obtain⟨cs,h1,h2,_⟩:=d 0 (by omega)
   have:=h2 0 C
   rw[qm (h1▸C)] at this
   obtain⟨c,h,_⟩:=Q8 this
   exact⟨c,h⟩
 have f:∀ i,i<len→∃ z:α,∀ j,j<k→∃ u,c[o+i*k+j]? = some u∧∀ a,(en z).cells[j]? = some a→VR (gW w) a u:=fun i hi=>by
   obtain⟨cs,h1,h2,y,h3⟩:=d i hi
   obtain⟨z,g⟩:=M _ _ _ (by omega) h3
   refine⟨z,fun j r=>?_⟩
   have:=h2 j r
   rw[qm (h1▸r)] at this
   obtain⟨c', h,O⟩:=Q8 this
   cases s.symm.trans h
   exact⟨_,O,fun a ha=>g j a _ ha (qm (h1▸r))⟩
 refine⟨List.ofFn fun i:_root_.Fin len=>Classical.choose (f i.1 i.2),?_,by rw[List.length_ofFn];exact lH J A⟩
 have E:((List.ofFn fun i:_root_.Fin len=>Classical.choose (f i.1 i.2)).map en).length=len:=by simp
 conv=>rhs;rw[←E]
 refine VR.lit (sz:=k) s (fun e D=>?_) ?_ (by rw[E];exact J) fun i j e a u D ha hu=>?_
 · obtain⟨z,_,rfl⟩:=iB.1 D
   exact p z
 · rw[E]
   obtain⟨z,g⟩:=f (len-1) (by omega)
   obtain⟨u,hu,_⟩:=g (k-1) (by omega)
   have:=(y8.1 hu).1
   have e:len*k=(len-1)*k+k:=by
     obtain⟨m,rfl⟩:∃ m,len=m+1:=⟨len-1,by omega⟩
     simp[mM]
   omega
 · rw[pw,Option.map_eq_some_iff] at D
   obtain⟨z,g,rfl⟩:=D
   rw[List.getElem?_ofFn] at g
   split at g
   · rename_i hi
     cases g
     have r:j<k:=by
      have:=(lr.1 ha).1
      rwa [p] at this
     obtain⟨T,I,Q⟩:=Classical.choose_spec (f i hi) j r
     cases hu.symm.trans I
     exact Q a ha
   · cases g
theorem VR.OT (c:P.underlying t=some (.slice e))(d:P.cellsOf e=k)(f:0<k)(b:∀ z,(en z).cells.length=k)(g:∀ n cs y,DataW.trod enc P w base sp held n e cs=some y→∃ z:α,∀(j:Nat) (a:AV) (u:Value),(en z).cells[j]? = some a→cs[j]? = some u→VR (gW w) a u)(h:DataW.trod enc P w base sp held fuel t [v]=some x):∃ l:List α,VR (gW w) (.lit (l.map en)) v:=
 let ⟨l,i,_⟩:=VR.zI c d f b (fun n cs y _=>g n cs y) h
 ⟨l,i⟩
variable {f0 f1 : Field}
theorem U2 {n:Nat}{cs:List Value}{y:DataW H×List MemPlace}(i:P.underlying t=some (.struct #[f0,f1]))(j:P.cellsOf t=2)(l:f0.offset=0)(c0:P.cellsOf f0.type=1)(o:f1.offset=1)(c1:P.cellsOf f1.type=1)(h:DataW.trod enc P w base sp held n t cs=some y) :
  ∃ a b d f m,cs=[a,b]∧DataW.trod enc P w base sp held m f0.type [a]=some d∧DataW.trod enc P w base sp held m f1.type [b]=some f:=by
 obtain⟨d,f,m,_,g,c,h1⟩:=trod_struct2 i h
 rw[j] at g
 rw[l,c0] at c
 rw[o,c1] at h1
 match cs,g,c,h1 with
 | [a,b],_,c,h1=>exact⟨a,b,d,f,m,rfl,c,h1⟩
theorem ajV {d:Field}{p k1:IntKind}(mk:Int→Int→List α→α)(r:P.underlying t=some (.struct #[f0,f1,d]))(q:P.cellsOf t=3)(s:f0.offset=0)(A:f1.offset=1)(B:d.offset=2)(c0:P.cellsOf f0.type=1)(c1:P.cellsOf f1.type=1)(c2:P.cellsOf d.type=1)(C:P.underlying f0.type=some (.int p))(D:P.underlying f1.type=some (.int k1))(E:P.underlying d.type=some (.slice t))(o:∀ a b l,(en (mk a b l)).cells=[.sc (.int p a),.sc (.int k1 b),.lit (l.map en)])(F:∀ z,(en z).cells.length=3) :
   ∀(fuel:Nat) (cs:List Value) (y:DataW H×List MemPlace),DataW.trod enc P w base sp held fuel t cs=some y→∃ z:α,∀(j:Nat) (a:AV) (u:Value),(en z).cells[j]? = some a→cs[j]? = some u→VR (gW w) a u:=by
 intro fuel
 induction fuel using Nat.strongRecOn with
 | ind fuel G=>
   intro cs y h
   obtain⟨xs,n,M,rfl,f,g,hf⟩:=DataW.trod_struct r h
   match xs,g with
   | [N,O,Q],_=>
     have i:=hf 0 f0 rfl
     have h1:=hf 1 f1 rfl
     have h2:=hf 2 d rfl
     rw[s,c0] at i
     rw[A,c1] at h1
     rw[B,c2] at h2
     rw[q] at f
     match cs,f,i,h1,h2 with
     | [a,b,c],_,i,h1,h2=>
       obtain⟨z0,I,_⟩:=DataW.trod_int C i
       obtain⟨J,K,_⟩:=DataW.trod_int D h1
       cases I
       cases K
       obtain⟨l,L,_⟩:=VR.zI (en:=en) E q (by omega) F (fun m cs y R hy=>G m (by omega) cs y hy) h2
       refine⟨mk z0 J l,fun j a u ha hu=>?_⟩
       rw[o] at ha
       match j with
       | 0=>cases ha;cases hu;exact .sc rfl
       | 1=>cases ha;cases hu;exact .sc rfl
       | 2=>cases ha;cases hu;exact L
       | j+3=>cases ha
end Go.Eng
namespace Go.Proofs.YthplmmeobggkfaaGreat.insideSwaps
open Go.ChangeShapes Go.WideShapes Go.ChangeAt Go.RowKit
theorem own : ownKnob Tryz.prog.godebug=none:=by kernel_rfl
theorem laid : laidOutB Tryz.prog=true:=by kernel_rfl
section
variable {H : Type} {enc : TypeId × Value → H} {w : World} {base : Nat} {sp : Nat → Bool} {held : Bool}
def RD (enc:TypeId×Value→H)(w:World)(base:Nat)(sp:Nat→Bool)(held:Bool)(t:TypeId)(n:Nat){α:Type}(c:α→List Go.Eng.AV):Prop:=
 ∀ cs y,DataW.trod enc Tryz.prog w base sp held n t cs=some y→∃ z:α,∀(j:Nat) (a:Go.Eng.AV) (u:Value),(c z)[j]? = some a→cs[j]? = some u→Go.Eng.VR (Go.Eng.gW w) a u
variable {n : Nat}
theorem Fc {t:TypeId}{k:Nat}(a : Tryz.prog.cellsOf t=k){cs:List Value}(o:Nat){r:Option (DataW H×List MemPlace)}(h:DataW.trod enc Tryz.prog w base sp held n t ((cs.drop o).take (Tryz.prog.cellsOf t))=r):DataW.trod enc Tryz.prog w base sp held n t ((cs.drop o).take k)=r:=a▸h
theorem s1 : Tryz.prog.cellsOf 3=1:=by kernel_rfl
theorem s2 : Tryz.prog.cellsOf 45=1:=by kernel_rfl
theorem s3 : Tryz.prog.cellsOf 54=3:=by kernel_rfl
theorem s4 : Tryz.prog.cellsOf 47=6:=by kernel_rfl
variable {v : Value}
theorem names {y:DataW H×List MemPlace}(h:DataW.trod enc Tryz.prog w base sp held n 22 [v]=some y):∃ l:List Go.Eng.cf,Go.Eng.VR (Go.Eng.gW w) (.lit (l.map Go.Eng.ep)) v:=by
 refine Go.Eng.VR.OT (k:=2) Tryz.underlying22 (by kernel_rfl) (by omega) (fun _=>rfl) (fun n cs y hy=>?_) h
 obtain⟨a,b,d,e,m,rfl,c,h1⟩:=Go.Eng.U2 Tryz.underlying119 (by kernel_rfl) rfl (by kernel_rfl) rfl (by kernel_rfl) hy
 obtain⟨s,c,_⟩:=DataW.trod_string Tryz.underlying9 c
 obtain⟨z,h1,_⟩:=DataW.trod_int Tryz.underlying3 h1
 cases c
 cases h1
 refine⟨⟨s,z⟩,fun j a u ha hu=>?_⟩
 match j with
 | 0=>cases ha;cases hu;exact .sc rfl
 | 1=>cases ha;cases hu;exact .sc rfl
 | j+2=>cases ha
theorem ints {y:DataW H×List MemPlace}(h:DataW.trod enc Tryz.prog w base sp held n 45 [v]=some y):∃ l:List Int,Go.Eng.VR (Go.Eng.gW w) (Go.Eng.aN l) v:=by
 refine Go.Eng.VR.OT (k:=1) Tryz.underlying45 (by kernel_rfl) (by omega) (fun _=>rfl) (fun n cs y hy=>?_) h
 obtain⟨z,rfl,_⟩:=DataW.trod_int Tryz.underlying3 hy
 refine⟨z,fun j a u ha hu=>?_⟩
 match j with
 | 0=>cases ha;cases hu;exact .sc rfl
 | j+1=>cases ha
theorem ZS (n:Nat)(cs:List Value)(y:DataW H×List MemPlace)(h:DataW.trod enc Tryz.prog w base sp held n 54 cs=some y):∃ z:Go.Eng.Term,∀(j:Nat) (a:Go.Eng.AV) (u:Value),(Go.Eng.cI z).cells[j]? = some a→cs[j]? = some u→Go.Eng.VR (Go.Eng.gW w) a u:=
 Go.Eng.ajV (en:=Go.Eng.cI) Go.Eng.Term.mk Tryz.underlying54 (by kernel_rfl) rfl rfl rfl (by kernel_rfl) (by kernel_rfl) (by kernel_rfl) Tryz.underlying51 Tryz.underlying3 Tryz.underlying52 (fun a b l=>Go.Eng.ga _) Go.Eng.cT _ _ _ h
theorem term (n:Nat):RD enc w base sp held 54 n Go.Eng.Uk:=fun cs y h=>by
 obtain⟨z,a⟩:=ZS n cs y h
 rw[Go.Eng.ga] at a
 exact⟨z,a⟩
theorem ajW {y:DataW H×List MemPlace}(h:DataW.trod enc Tryz.prog w base sp held n 52 [v]=some y):∃ l:List Go.Eng.Term,Go.Eng.VR (Go.Eng.gW w) (Go.Eng.aT l) v:=
 Go.Eng.VR.OT (k:=3) Tryz.underlying52 s3 (by omega) Go.Eng.cT ZS h
set_option maxRecDepth 100000 in
theorem asG (n:Nat):RD enc w base sp held 134 n Go.Eng.Cq:=fun cs y h=>by
 obtain⟨xs,m,r,rfl,b,c,hf⟩:=DataW.trod_struct Tryz.underlying134 h
 rw[show Tryz.prog.cellsOf 134=6 by kernel_rfl] at b
 match xs,c,cs,b with
 | [e,f,g,i],_,[c0,c1,c2,c3,c4,c5],_=>
   have k:DataW.trod enc Tryz.prog w base sp held m 3 [c0]=some e:=Fc (cs:=[c0,c1,c2,c3,c4,c5]) s1 0 (hf 0 _ rfl)
   have h1:DataW.trod enc Tryz.prog w base sp held m 52 [c1]=some f:=Fc (cs:=[c0,c1,c2,c3,c4,c5]) (show Tryz.prog.cellsOf 52=1 by kernel_rfl) 1 (hf 1 _ rfl)
   have h2:DataW.trod enc Tryz.prog w base sp held m 54 [c2,c3,c4]=some g:=Fc (cs:=[c0,c1,c2,c3,c4,c5]) s3 2 (hf 2 _ rfl)
   have h3:DataW.trod enc Tryz.prog w base sp held m 3 [c5]=some i:=Fc (cs:=[c0,c1,c2,c3,c4,c5]) s1 5 (hf 3 _ rfl)
   obtain⟨z0,o,_⟩:=DataW.trod_int Tryz.underlying3 k
   obtain⟨z3,p,_⟩:=DataW.trod_int Tryz.underlying3 h3
   cases o
   cases p
   obtain⟨l,q⟩:=ajW h1
   obtain⟨t,d⟩:=term m _ _ h2
   refine⟨⟨z0,l,t,z3⟩,fun j a u ha hu=>?_⟩
   match j with
   | 0=>cases ha;cases hu;exact .sc rfl
   | 1=>cases ha;cases hu;exact q
   | 2=>exact d 0 a u ha hu
   | 3=>exact d 1 a u ha hu
   | 4=>exact d 2 a u ha hu
   | 5=>cases ha;cases hu;exact .sc rfl
   | j+6=>cases ha
set_option maxRecDepth 100000 in
theorem tree : ∀ n:Nat,RD enc w base sp held 47 n Go.Eng.pE:=by
 intro n
 induction n using Nat.strongRecOn with
 | ind n B=>
   intro cs y h
   obtain⟨xs,m,N,rfl,b,c,hf⟩:=DataW.trod_struct Tryz.underlying47 h
   rw[s4] at b
   match xs,c,cs,b with
   | [f,g,i,C,D,E],_,[c0,c1,c2,c3,c4,c5],_=>
     have l:DataW.trod enc Tryz.prog w base sp held m 43 [c0]=some f:=Fc (cs:=[c0,c1,c2,c3,c4,c5]) (show Tryz.prog.cellsOf 43=1 by kernel_rfl) 0 (hf 0 _ rfl)
     have h1:DataW.trod enc Tryz.prog w base sp held m 3 [c1]=some g:=Fc (cs:=[c0,c1,c2,c3,c4,c5]) s1 1 (hf 1 _ rfl)
     have h2:DataW.trod enc Tryz.prog w base sp held m 44 [c2]=some i:=Fc (cs:=[c0,c1,c2,c3,c4,c5]) (show Tryz.prog.cellsOf 44=1 by kernel_rfl) 2 (hf 2 _ rfl)
     have h3:DataW.trod enc Tryz.prog w base sp held m 28 [c3]=some C:=Fc (cs:=[c0,c1,c2,c3,c4,c5]) (show Tryz.prog.cellsOf 28=1 by kernel_rfl) 3 (hf 3 _ rfl)
     have h4:DataW.trod enc Tryz.prog w base sp held m 3 [c4]=some D:=Fc (cs:=[c0,c1,c2,c3,c4,c5]) s1 4 (hf 4 _ rfl)
     have F:DataW.trod enc Tryz.prog w base sp held m 45 [c5]=some E:=Fc (cs:=[c0,c1,c2,c3,c4,c5]) s2 5 (hf 5 _ rfl)
     obtain⟨z0,o,_⟩:=DataW.trod_int Tryz.underlying43 l
     obtain⟨G,I,_⟩:=DataW.trod_int Tryz.underlying3 h1
     obtain⟨z4,J,_⟩:=DataW.trod_int Tryz.underlying3 h4
     cases o
     cases I
     cases J
     obtain⟨r,d⟩:=ints F
     obtain ⟨K,s,_⟩:=Go.Eng.VR.zI (k:=6) (en:=Go.Eng.au) Tryz.underlying28 s4 (by omega) (fun x=>by rw[Go.Eng.fj];rfl) (fun q cs y L hy=>by
      obtain⟨z,M⟩:=B q (by omega) cs y hy
      exact⟨z,by rw[Go.Eng.fj];exact M⟩) h3
     obtain ⟨al,A,_⟩:=Go.Eng.VR.zI (k:=8) (en:=Go.Eng.aZ) Tryz.underlying44 (by kernel_rfl) (by omega) (fun x=>by rw[Go.Eng.mB];rfl) (fun q cs y L hy=>by
      obtain⟨xs,p,O,rfl,b,c,hf⟩:=DataW.trod_struct Tryz.underlying131 hy
      rw[show Tryz.prog.cellsOf 131=8 by kernel_rfl] at b
      match xs,c,cs,b with
      | [f,g,i],_,[c0,c1,c2,c3,c4,c5,c6,c7],_=>
        have l:DataW.trod enc Tryz.prog w base sp held p 3 [c0]=some f:=Fc (cs:=[c0,c1,c2,c3,c4,c5,c6,c7]) s1 0 (hf 0 _ rfl)
        have h1:DataW.trod enc Tryz.prog w base sp held p 45 [c1]=some g:=Fc (cs:=[c0,c1,c2,c3,c4,c5,c6,c7]) s2 1 (hf 1 _ rfl)
        have h2:DataW.trod enc Tryz.prog w base sp held p 47 [c2,c3,c4,c5,c6,c7]=some i:=Fc (cs:=[c0,c1,c2,c3,c4,c5,c6,c7]) s4 2 (hf 2 _ rfl)
        obtain⟨z0,o,_⟩:=DataW.trod_int Tryz.underlying3 l
        cases o
        obtain⟨r,d⟩:=ints h1
        obtain⟨t,e⟩:=B p (by omega) _ _ h2
        refine⟨.mk z0 r t,fun j a u ha hu=>?_⟩
        rw[Go.Eng.mB] at ha
        match j with
        | 0=>cases ha;cases hu;exact .sc rfl
        | 1=>cases ha;cases hu;exact d
        | 2=>exact e 0 a u ha hu
        | 3=>exact e 1 a u ha hu
        | 4=>exact e 2 a u ha hu
        | 5=>exact e 3 a u ha hu
        | 6=>exact e 4 a u ha hu
        | 7=>exact e 5 a u ha hu
        | j+8=>cases ha) h2
     refine⟨.mk z0 G al K z4 r,fun j a u ha hu=>?_⟩
     match j with
     | 0=>cases ha;cases hu;exact .sc rfl
     | 1=>cases ha;cases hu;exact .sc rfl
     | 2=>cases ha;cases hu;exact A
     | 3=>cases ha;cases hu;exact s
     | 4=>cases ha;cases hu;exact .sc rfl
     | 5=>cases ha;cases hu;exact d
     | j+6=>cases ha
set_option maxRecDepth 100000 in
theorem ajX (n:Nat):RD enc w base sp held 56 n Go.Eng.xH:=fun cs y h=>by
 obtain⟨xs,m,p,rfl,b,c,hf⟩:=DataW.trod_struct Tryz.underlying56 h
 rw[show Tryz.prog.cellsOf 56=5 by kernel_rfl] at b
 match xs,c,cs,b with
 | [e,f,g],_,[c0,c1,c2,c3,c4],_=>
   have i:DataW.trod enc Tryz.prog w base sp held m 50 [c0]=some e:=Fc (cs:=[c0,c1,c2,c3,c4]) (show Tryz.prog.cellsOf 50=1 by kernel_rfl) 0 (hf 0 _ rfl)
   have h1:DataW.trod enc Tryz.prog w base sp held m 3 [c1]=some f:=Fc (cs:=[c0,c1,c2,c3,c4]) s1 1 (hf 1 _ rfl)
   have h2:DataW.trod enc Tryz.prog w base sp held m 54 [c2,c3,c4]=some g:=Fc (cs:=[c0,c1,c2,c3,c4]) s3 2 (hf 2 _ rfl)
   obtain⟨z0,k,_⟩:=DataW.trod_int Tryz.underlying50 i
   obtain⟨l,o,_⟩:=DataW.trod_int Tryz.underlying3 h1
   cases k
   cases o
   obtain⟨t,d⟩:=term m _ _ h2
   refine⟨⟨z0,l,t⟩,fun j a u ha hu=>?_⟩
   match j with
   | 0=>cases ha;cases hu;exact .sc rfl
   | 1=>cases ha;cases hu;exact .sc rfl
   | 2=>exact d 0 a u ha hu
   | 3=>exact d 1 a u ha hu
   | 4=>exact d 2 a u ha hu
   | j+5=>cases ha
set_option maxRecDepth 100000 in
theorem asH {r:Reach}{e:Nat}{d:DataW H}{g:List MemPlace}(i:Value.okWide Tryz.prog w r e 33 v)(h:DataW.Trod enc Tryz.prog w base sp held 33 v d g) :
   ∃ p:Go.Eng.aj,Go.Eng.VR (Go.Eng.gW w) (.agg [Go.Eng.aI p.Nil,Go.Eng.aI p.Cons,.lit (p.Steps.map Go.Eng.ar)]) v∧p.Steps.length≤maxLen:=by
 obtain⟨cs,rfl,hs⟩:=okWide_struct Tryz.underlying33 i
 obtain⟨f,h⟩:=h
 obtain⟨xs,m,D,_,b,c,hf⟩:=DataW.trod_struct Tryz.underlying33 h
 rw[show Tryz.prog.cellsOf 33=3 by kernel_rfl] at b
 obtain⟨cs⟩:=cs
 have b:cs.length=3:=b
 match xs,c,cs,b with
 | [o,s,t],_,[c0,c1,c2],_=>
   have x:DataW.trod enc Tryz.prog w base sp held m 3 [c0]=some o:=Fc (cs:=[c0,c1,c2]) s1 0 (hf 0 _ rfl)
   have h1:DataW.trod enc Tryz.prog w base sp held m 3 [c1]=some s:=Fc (cs:=[c0,c1,c2]) s1 1 (hf 1 _ rfl)
   have h2:DataW.trod enc Tryz.prog w base sp held m 31 [c2]=some t:=Fc (cs:=[c0,c1,c2]) (show Tryz.prog.cellsOf 31=1 by kernel_rfl) 2 (hf 2 _ rfl)
   obtain⟨z0,z,_⟩:=DataW.trod_int Tryz.underlying3 x
   obtain⟨A,B,_⟩:=DataW.trod_int Tryz.underlying3 h1
   cases z
   cases B
   obtain⟨l,C,hb⟩:=Go.Eng.VR.zI (k:=5) (en:=Go.Eng.ar) Tryz.underlying31 (by kernel_rfl) (by omega) (fun _=>rfl) (fun q cs y _ hy=>ajX q cs y hy) h2
   refine⟨⟨z0,A,l⟩,.agg rfl fun j a u ha hu=>?_,hb⟩
   match j with
   | 0=>cases ha;cases hu;exact .sc rfl
   | 1=>cases ha;cases hu;exact .sc rfl
   | 2=>cases ha;cases hu;exact C
   | j+3=>cases ha
set_option maxRecDepth 100000 in
theorem prog {r:Reach}{p:Nat}{v:Value}{d:DataW H}{s:List MemPlace}(t:Value.okWide Tryz.prog w r p 30 v)(h:DataW.Trod enc Tryz.prog w base sp held 30 v d s) :
   ∃ f:Go.Eng.bA,Go.Eng.VR (Go.Eng.gW w) (.agg [Go.Eng.aM f.Prog.cv.Cons,Go.Eng.aM f.Prog.cv.bp,.lit (f.Prog.aF.map Go.Eng.az),.lit (f.bP.map Go.Eng.au)]) v:=by
 obtain⟨cs,rfl,hs⟩:=okWide_struct Tryz.underlying30 t
 obtain⟨f,h⟩:=h
 obtain⟨xs,m,N,_,e,c,hf⟩:=DataW.trod_struct Tryz.underlying30 h
 rw[show Tryz.prog.cellsOf 30=4 by kernel_rfl] at e
 obtain⟨cs⟩:=cs
 have e:cs.length=4:=e
 match xs,c,cs,e with
 | [A,B],_,[c0,c1,c2,c3],_=>
   have C:DataW.trod enc Tryz.prog w base sp held m 27 [c0,c1,c2]=some A:=Fc (cs:=[c0,c1,c2,c3]) (show Tryz.prog.cellsOf 27=3 by kernel_rfl) 0 (hf 0 _ rfl)
   have h1:DataW.trod enc Tryz.prog w base sp held m 28 [c3]=some B:=Fc (cs:=[c0,c1,c2,c3]) (show Tryz.prog.cellsOf 28=1 by kernel_rfl) 3 (hf 1 _ rfl)
   obtain⟨D,q,_,rfl,_,c,hf⟩:=DataW.trod_struct Tryz.underlying27 C
   match D,c with
   | [E,F],_=>
     have G:DataW.trod enc Tryz.prog w base sp held q 24 [c0,c1]=some E:=Fc (cs:=[c0,c1,c2]) (show Tryz.prog.cellsOf 24=2 by kernel_rfl) 0 (hf 0 _ rfl)
     have k1:DataW.trod enc Tryz.prog w base sp held q 25 [c2]=some F:=Fc (cs:=[c0,c1,c2]) (show Tryz.prog.cellsOf 25=1 by kernel_rfl) 2 (hf 1 _ rfl)
     obtain⟨a,b,O,w1,_,I,J,K⟩:=Go.Eng.U2 Tryz.underlying24 (by kernel_rfl) rfl (by kernel_rfl) rfl (by kernel_rfl) G
     cases I
     obtain⟨L,g⟩:=names J
     obtain⟨l1,i⟩:=names K
     obtain⟨l2,l,_⟩:=Go.Eng.VR.zI (k:=6) (en:=Go.Eng.az) Tryz.underlying25 (by kernel_rfl) (by omega) (fun _=>rfl) (fun q cs y _ hy=>asG q cs y hy) k1
     obtain ⟨l3,o,_⟩:=Go.Eng.VR.zI (k:=6) (en:=Go.Eng.au) Tryz.underlying28 s4 (by omega) (fun x=>by rw[Go.Eng.fj];rfl) (fun q cs y _ hy=>by
      obtain⟨z,M⟩:=tree q cs y hy
      exact⟨z,by rw[Go.Eng.fj];exact M⟩) h1
     refine⟨⟨⟨⟨L,l1⟩,l2⟩,l3⟩,.agg rfl fun j a u ha hu=>?_⟩
     match j with
     | 0=>cases ha;cases hu;exact g
     | 1=>cases ha;cases hu;exact i
     | 2=>cases ha;cases hu;exact l
     | 3=>cases ha;cases hu;exact o
     | j+4=>cases ha
end
set_option maxRecDepth 100000 in
theorem lifted (os:Os)(started:os.Started)(H:Type)(enc:TypeId×Value→H) :
  ReturnsInHanded {} Tryz.checked os 3 .any (Rows.insideSwapsSpec.pre6 enc Tryz.prog Tryz.f3 Rows.insideSwapsRow.domain false) (Rows.insideSwapsSpec.post enc Tryz.prog Tryz.f3 false true false false):=by
 refine returnsInHanded_of_change (C:=Tryz.checked) own started (by kernel_rfl) Tryz.func3
  (ChangeSpec.witness6 (enc:=enc) (C:=Tryz.checked) false ⟨#[],#[.agg #[.slice none 0 0,.slice none 0 0,.slice none 0 0,.slice none 0 0],.agg #[.int .i64 0,.int .i64 0,.slice none 0 0],.int .i64 0],[]⟩ 8 (by kernel_rfl) (by kernel_rfl) (by kernel_rfl) (by kernel_rfl)) ?_
 intro W base args ds X before g D J _
 have c:∀(j:Nat) t v,Tryz.f3.params[j]? = some t→args[j]? = some v→Value.okWide Tryz.prog W .any base t v:=g
 have m:=D
 obtain⟨p,q,o,K,rfl,U,V⟩:=D
 have E:DataW.TrodAll enc Tryz.prog W 0 (fun _=>true) true Tryz.f3.params.toList args.toList ds p:=o
 have r:=fun x hx=>m.lt x hx
 rw[Tryz.params3] at E c
 obtain⟨v0,F,L,Y,Z,d2,M,N,p2,rfl,rfl,rfl,G,h1,h2⟩:=trodAll_three E
 obtain⟨rfl,rfl⟩:=trodVars_none K
 clear o g
 obtain⟨f,hf⟩:=prog (c 0 30 v0 rfl rfl) G
 obtain⟨pl,y,hb⟩:=asH (c 1 33 F rfl rfl) h1
 obtain⟨z,O,A,B,wz⟩:=open_int Tryz.underlying3 (c 2 3 L rfl rfl) h2
 subst O A B
 have i:Go.Eng.hM (Go.Eng.gW W) [.agg [Go.Eng.aM f.Prog.cv.Cons,Go.Eng.aM f.Prog.cv.bp,.lit (f.Prog.aF.map Go.Eng.az),.lit (f.bP.map Go.Eng.au)],.agg [Go.Eng.aI pl.Nil,Go.Eng.aI pl.Cons,.lit (pl.Steps.map Go.Eng.ar)],Go.Eng.aI z] #[v0,F,.int .i64 z]:=⟨rfl,fun k a x ha hx=>by
  match k with
  | 0=>cases ha;cases hx;exact hf
  | 1=>cases ha;cases hx;exact y
  | 2=>cases ha;cases hx;exact .sc rfl
  | k+3=>cases ha⟩
 refine(Go.Eng.fY.ae1 (Go.Eng.Aj true (Go.Eng.WE f pl z hb rfl) Go.Eng.ag.empty) i).mono fun e P ⟨Q,R,l⟩=>?_
 subst Q
 have T:∀ {t:TypeId} {v:Value} {d:DataW H} {u:List MemPlace},Tryz.prog.readableRec t=true→t < Tryz.prog.types.size→DataW.Trod enc Tryz.prog W 0 (fun _=>true) true t v d u→(∀ x∈u,x.block<W.heap.size)→DataW.Trod enc Tryz.prog P 0 (fun b=>decide (b<W.heap.size)) true t v d u:=
  fun S s h I=>WideElems.Trod_stays laid S s h (fun x hx=>l x (I x hx)) fun x hx=>by simpa using I x hx
 refine⟨_,rfl,_,_,_,[],M++(N++[]),[],m,trodAll_cons_mk (shut_bool Tryz.underlying4 _) trodAll_mk0,?_,rfl,World.keptBut_mono (fun _ (h:False)=>h.elim) R,fun h=>by cases h⟩
 exact (show Tryz.f3.params.toList=[30,33,3] by rw[Tryz.params3])▸trodAll_mk3 (T (by kernel_rfl) (of_decide_eq_true (by kernel_rfl)) G fun x hx=>r x (by simp[hx])) (T (by kernel_rfl) (of_decide_eq_true (by kernel_rfl)) h1 fun x hx=>r x (by simp[hx]))
  (T (by kernel_rfl) (of_decide_eq_true (by kernel_rfl)) h2 fun x hx=>by simp at hx)
theorem ae2 : Tryz.pinned.checked.prog.funcNamed Rows.insideSwapsRow.func=some 3:=by kernel_rfl
theorem k1 : laidOutB Tryz.pinned.checked.prog=true:=by kernel_rfl
theorem k2 : mapsRowed Tryz.pinned.checked.prog=true:=by kernel_rfl
theorem k3 : (Tryz.pinned.checked.prog.stops==[])=true:=by kernel_rfl
theorem k4 : (Tryz.pinned.checked.prog.stopKnobs==[])=true:=by kernel_rfl
theorem k5 : (Rows.insideSwapsRow.inPlace == Tryz.pinned.checked.prog.inPlace 3)=true:=by kernel_rfl
theorem k6 : (Rows.insideSwapsRow.unfollowed == Tryz.pinned.checked.prog.unfollowed 3)=true:=by kernel_rfl
theorem k7 : (Rows.insideSwapsRow.recurses == Tryz.pinned.checked.prog.recurses 3)=true:=by kernel_rfl
theorem k8 : (Rows.insideSwapsRow.named == Tryz.pinned.checked.prog.varsNamed 3)=true:=by kernel_rfl
theorem k9 : (Rows.insideSwapsRow.plainKeys == Tryz.pinned.checked.prog.plainKeys)=true:=by kernel_rfl
theorem av3 : Tryz.pinned.checked.prog.stopsHeard=true:=by kernel_rfl
theorem av4 : Tryz.pinned.checked.prog.mayEnter=true:=by kernel_rfl
theorem av5 : (Rows.insideSwapsRow.lifted == Tryz.pinned.checked.prog.liftsFinal)=true:=by kernel_rfl
theorem facts : joinedFacts Tryz.pinned.checked.prog 3 Tryz.f3 Rows.insideSwapsSpec Rows.insideSwapsRow=true:=by
 unfold joinedFacts
 rw[k1,k2,k3,k4,k5,k6,k7,k8,k9,av3,av4,av5]
 kernel_rfl
theorem inst : Tryz.f3.isInstance Tryz.pinned.checked.prog Rows.insideSwapsRow.origin Rows.insideSwapsRow.targs:=of_decide_eq_true (by kernel_rfl)
theorem wrap : Tryz.f3.isWrapper Tryz.pinned.checked.prog Rows.insideSwapsRow.wrapper Rows.insideSwapsRow.mainSum:=by
 unfold Func.isWrapper;first | (rw[if_pos (by decide +kernel)];kernel_rfl) | (rw[if_neg (by decide +kernel)];exact⟨rfl,rfl⟩)
theorem jB : Rows.insideSwapsRow.holds Tryz.pinned (OpenSpec.ofChange Rows.insideSwapsSpec):=
 OpenClaim.holds_of_wide 3 Tryz.f3 rfl rfl rfl rfl rfl rfl rfl ⟨rfl,rfl,rfl,rfl,rfl⟩ rfl rfl rfl rfl rfl ae2 Tryz.func3 facts inst wrap
  (fun os started H enc _=>lifted os started H enc)
theorem proved : Rows.InsideSwapsSaid:=
 jB
end Go.Proofs.YthplmmeobggkfaaGreat.insideSwaps

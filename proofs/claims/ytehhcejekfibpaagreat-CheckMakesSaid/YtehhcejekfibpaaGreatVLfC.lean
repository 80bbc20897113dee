/- Functions of the program lifted to data, each with its contract; no conditions. -/
import Derived.Test.YtehhcejekfibpaaGreatVLfA
import Derived.Test.YtehhcejekfibpaaGreatVLcS
import Derived.KernelRfl
set_option linter.unusedVariables false
set_option linter.unusedSimpArgs false
namespace Go.Eng
open Go.Proofs
set_option synthInstance.maxSize 100000
set_option synthInstance.maxHeartbeats 400000
noncomputable section
def jo (a0:ae)(a a2:Term):Option Int:=pP a0 a a2>>=fun v0=>some v0.1
set_option maxRecDepth 100000 in
theorem FR (a0:ae)(a a2:Term)(r:Int)(h:jo a0 a a2=some r):∀ S,cL Tryz.prog 37 [aK a,aK a2,.fa [aM a0.Cons,aM a0.dI]] S fun b c=>b=.ret (aI r)∧c=S:=by
 unfold jo at h
 refine yF EE ?_
 refine yC EE 8 (y4 a0 a a2) h fun v0 h=>?_
 cases h
 exact yR EE 10
variable {P : Program} {f : FuncId} {args : List AV} {S : af} {v : AV}
theorem cL.adg {A B:af}(b:B.nx=A.nx)(c:B.lim=A.lim)(a:∀ id,B.get id=A.get id)(h:cL P f args S fun r j=>r=.ret v∧j=A):cL P f args S fun r j=>r=.ret v∧j=B:=by
 intro g w xs hx hi
 refine(h g w xs hx hi).mono ?_
 rintro e w' ⟨r,j,g', ⟨rfl,rfl⟩,m,i,d⟩
 exact ⟨_,_,g', ⟨rfl,rfl⟩,m,⟨i.ro,fun id o e=>i.ob id o (by rw[←a];exact e),fun id k o o' l l' e n=>i.inj id k o o' l l' (by rw[←a];exact e) (by rw[←a];exact n),fun id aH=>i.fresh id (by rw[←b];exact aH)⟩,
  ⟨d.size,d.os,d.tape,d.output,d.gw,fun id o l e=>d.own id o l (by rw[←a];exact e),d.mJ,by rw[b];exact d.nx,c.trans d.lim,fun id h=>(a id).trans (d.rM id h),d.qN,d.vl,fun id h e=>(a id).trans (d.dead id h e),d.fz⟩⟩
theorem af.zZ {id:Nat}{o:ai}(a:S.get id=some o)(k:Nat):(S.set id o).get k=S.get k:=by
 by_cases h:k=id
 · subst h;rw[af.bn (af.dG a),a]
 · exact af.ar (af.dG a) h
theorem cL.coarse {a:List AV}{Q:gI→af→Prop}(b:∀ g xs,fe g args xs→fe g a xs)(h:cL P f a S Q):cL P f args S Q:=
 fun g w xs hx hi=>h g w xs (b g xs hx) hi
theorem x7 {o:Nat}(c:∀ g x,VR g v x→VR g (.lit []) x)(g:Gh)(xs:Array Value)(h:fe g [v,.fn (.func 37) [] [aP o]] xs):fe g [.lit [],.fn (.func 37) [] [.top]] xs:=by
 refine⟨h.1,fun k a x e b=>?_⟩
 match k with
 | 0=>simp only[List.getElem?_cons_zero,an] at e;subst e;exact c g x (h.2 0 _ x rfl b)
 | 1=>
   simp only[List.getElem?_cons_succ,List.getElem?_cons_zero,an] at e;subst e
   have:=h.2 1 _ x rfl b
   cases this with
   | fn hx d h1 h2=>
     refine .fn hx d h1 fun k a x e b=>?_
     cases k with
     | zero=>simp only[List.getElem?_cons_zero,an] at e;subst e;exact .top
     | succ k=>simp at e
 | k+2=>simp at e
theorem ES : ∀ S,cL Tryz.prog 36 [.lit [],.fn (.func 37) [] [.top]] S fun r a=>r=.ret (.bM [])∧a=S:=
 wu T0.ok mixed (n:=400) (d:=20) (k:=40) (by kernel_rfl) (by kernel_rfl) (by kernel_rfl)
open Classical in
noncomputable def qx (l:LT)(s:ae):Option LT:=
 if h:0<l.length then
  haveI:Inhabited (_root_.Fin l.length):=⟨⟨0,h⟩⟩
  if(∀ a∈l,∀ b∈l,(jo s a b).isSome)∧Sort.SWO (ltOf fun i j:_root_.Fin l.length=>(jo s l[i] l[j]).getD 0)∧l.length<4611686018427387904 then some (zo (fun a b=>(jo s a b).getD 0) l) else none
 else some []
theorem JY (S:af)(o0:Nat)(ob:ai)(a:S.get o0=some ob):cL Tryz.prog 36 [.ax,.fn (.func 37) [] [aP o0]] S fun r b=>r=.ret (.bM [])∧b=S.set o0 ob:=
 cL.adg (A:=S) rfl rfl (af.zZ a) (cL.coarse (x7 fun g x h=>by cases h;exact .gi) (ES S))
theorem JZ (l r:LT)(s:ae)(h:qx l s=some r)(S:af)(o0 o1:Nat)(o:o1≠o0)(e:S.get o0=some (oT l))(p:S.get o1=some (oG s))(B:S.lim≤o0) :
   cL Tryz.prog 36 [.ak o0 0 l.length,.fn (.func 37) [] [aP o1]] S fun t u=>t=.ret (.bM [])∧u=(S.set o1 (oG s)).set o0 (oT r):=by
 have C:aj=fun x=>.agg (Ev x):=funext sF
 have d:=af.dG e
 have z:∀ A k,((S.set o1 (oG s)).set o0 A).get k=(S.set o0 A).get k:=by
   intro A k
   by_cases j:k=o0
   · subst j;rw[af.bn d,af.bn d]
   · rw[af.ar d j,af.ar d j,af.zZ p]
 unfold qx at h
 split at h
 · rename_i m
   split at h<;>simp only[an,reduceCtorEq] at h
   rename_i n
   letI:Inhabited (_root_.Fin l.length):=⟨⟨0,m⟩⟩
   refine cL.adg (A:=S.set o0 (oT r)) rfl rfl (z _) ?_
   subst h
   unfold oT at e ⊢
   rw[C] at e ⊢
   refine Hx Tryz.XM (k:=3) (encC:=Ev) (fun _=>rfl) (by decide) (fun x=>by simp[Ev,bF,aq,cC]) (fun x v i=>by simp[Ev] at i;rcases i with rfl | rfl | rfl<;>rfl) ?_ ?_ l m n.2.2 _ n.2.1 ?_ (cs:=[aM s.Cons,aM s.dI]) (by simp[bF,aq,cC]) (fun x y hx D=>?_) o e p B
   · exact fun w=>nF (by kernel_rfl)
   · exact fun w=>run_sizeOf (by kernel_rfl)
   · exact enters_of Tryz.func37 (by kernel_rfl) rfl
   · obtain⟨v,i⟩:=Option.isSome_iff_exists.1 (n.1 x hx y D)
     refine(FR s x y v i af.empty).mono fun t u q=>?_
     rw[q.1,i];rfl
 · rename_i m
   have:l=[]:=List.eq_nil_of_length_eq_zero (by omega)
   subst this
   cases h
   refine cL.adg (A:=S) rfl rfl (fun k=>(z _ k).trans (af.zZ e k)) (cL.coarse (x7 fun g x h=>?_) (ES S))
   cases h with
   | ak a b c=>exact .gi
   | fI a b=>exact .gi
@[simp] noncomputable def nc := fun a0 a a2 a3 (o:NM)=>(([aG a0,aN a,aN a2,aI a3],[]):TC)
@[simp] noncomputable def fo := fun(r:(LT×Int)) (o:NM)=>((.bM [aT r.1,aI r.2],[],[]):TB)
@[simp] noncomputable def mH := fun a b (o:NM)=>(([aN a,.fn (.func 33) [] [aP (o 0)]],[oG b]):TC)
@[simp] noncomputable def iA := fun a (r:Bool) (o:NM)=>((aB r,[some (oG a)],[]):TB)
@[simp] noncomputable def fR := fun a b (o:NM)=>(([aN a,.fn (.func 33) [] [aP (o 0)]],[oG b]):TC)
@[simp] noncomputable def jy := fun a (r:Int) (o:NM)=>((aI r,[some (oG a)],[]):TB)
@[simp] noncomputable def uh := fun a17 mG (o:NM)=>(([aI a17,aP (o 0)],[oG mG]):TC)
@[simp] noncomputable def ui := fun mG (r:Bool) (o:NM)=>((aB r,[some (oG mG)],[]):TB)
@[simp] noncomputable def mI := fun a (o:NM)=>(([aN a,.fn (.func 34) [] []],[]):TC)
@[simp] noncomputable def iB := fun(r:Bool) (o:NM)=>((aB r,[],[]):TB)
@[simp] noncomputable def fS := fun a (o:NM)=>(([aN a,.fn (.func 34) [] []],[]):TC)
@[simp] noncomputable def jz := fun(r:Int) (o:NM)=>((aI r,[],[]):TB)
@[simp] noncomputable def uj := fun a59 (o:NM)=>(([aI a59],[]):TC)
@[simp] noncomputable def uk := fun(r:Bool) (o:NM)=>((aB r,[],[]):TB)
@[simp] noncomputable def sg := fun b Kx c Ns a (o:NM)=>(([aP (o 0),aI b],[oQ Kx c Ns (o 1),oE a]):TC)
@[simp] noncomputable def mF := fun b Kx c Ns a (r:Unit) (o:NM)=>((.fn (.func 78) [] [aP (o 2),aP (o 3)],sm [oQ Kx c Ns (o 1),oE a],[oP (o 0),oI b]):TB)
@[simp] noncomputable def J0 := fun wY (o:NM)=>(([.ax,.fn (.func 37) [] [aP (o 0)]],[oG wY]):TC)
@[simp] noncomputable def J1 := fun wY (r:Unit) (o:NM)=>((.bM [],[some (oG wY)],[]):TB)
@[simp] noncomputable def iD := fun dr cM dt a124 a db b cr c (o:NM)=>(([.nU (o 0),aP (o 1),aP (o 2)],[oW (o 3) (o 4) (o 5) (o 6) (o 7) (o 8) dr,oP (o 9),oI cM,oN,oN,oI dt,oP (o 9),oI a124,oG a,oQ db b cr (o 10),oE c]):TC)
@[simp] noncomputable def aZ := fun dr cM dt a124 a db b cr c (r:(Sum TT (Sum TT Unit))) (o:NM)=>(match r with | (Sum.inl y)=>(.bM [],sm [oX (o 3) (o 4) (o 5) (o 6) (o 7) (o 8) dr,oP (o 9),oI cM,oS (o 11) y.1.length,oN,oI 3,oP (o 9),oI a124,oG a,oQ db b cr (o 10),oF c a124 (o 12) y.2.length],[oT y.1,oT y.2]) | (Sum.inr (Sum.inl y))=>(.bM [],sm [oW (o 3) (o 4) (o 5) (o 6) (o 7) (o 8) dr,oP (o 9),oI cM,oS (o 11) y.1.length,oN,oI dt,oP (o 9),oI a124,oG a,oQ db b cr (o 10),oF c a124 (o 12) y.2.length],[oT y.1,oT y.2]) | (Sum.inr (Sum.inr y))=>(.bM [],sm [oW (o 3) (o 4) (o 5) (o 6) (o 7) (o 8) dr,oP (o 9),oI cM,oN,oN,oI dt,oP (o 9),oI a124,oG a,oQ db b cr (o 10),oE c],[]):TB)
@[simp] noncomputable def sh := fun yq b zx c A8 d zy a (o:NM)=>(([aP (o 0),aI yq,aI b],[oQ zx c A8 (o 1),oF d zy (o 2) a.length,oT a]):TC)
@[simp] noncomputable def sj := fun yq b zx c A8 d zy a (r:Unit) (o:NM)=>((.fn (.func 118) [] [aP (o 3),aP (o 4),aP (o 5)],sm [oQ zx c A8 (o 1),oF d zy (o 2) a.length],[oT a,oP (o 0),oI yq,oI b]):TB)
@[simp] noncomputable def sk := fun wZ a b A9 c zz (o:NM)=>(([aP (o 0),aI wZ,aI a],[oQ b A9 c (o 1),oE zz]):TC)
@[simp] noncomputable def sl := fun wZ a b A9 c zz (r:Unit) (o:NM)=>((.fn (.func 118) [] [aP (o 2),aP (o 3),aP (o 4)],sm [oQ b A9 c (o 1),oE zz],[oP (o 0),oI wZ,oI a]):TB)
@[simp] noncomputable def ig := fun b c d e g h i j a k (o:NM)=>(([.nU (o 0),aP (o 1),aP (o 2)],[oW (o 3) (o 4) (o 5) (o 6) (o 7) (o 8) b,oP (o 9),oI c,oS (o 11) a.length,oN,oI d,oP (o 9),oI e,oG g,oQ h i j (o 10),oE k,oT a]):TC)
@[simp] noncomputable def bk := fun b c k a d e g h i j (r:(Sum Unit (Sum TT (Sum TT Unit)))) (o:NM)=>(match r with | (Sum.inl y)=>(.bM [],sm [oX (o 3) (o 4) (o 5) (o 6) (o 7) (o 8) b,oP (o 9),oI c,oS (o 11) i.length,oN,oI 3,oP (o 9),oI a,oG d,oQ e g h (o 10),oE j],[oT i]) | (Sum.inr (Sum.inl y))=>(.bM [],sm [oX (o 3) (o 4) (o 5) (o 6) (o 7) (o 8) b,oP (o 9),oI c,oS (o 11) y.1.length,oN,oI 3,oP (o 9),oI a,oG d,oQ e g h (o 10),oF j a (o 12) y.2.length],[oT y.1,oT y.2]) | (Sum.inr (Sum.inr (Sum.inl y)))=>(.bM [],sm [oW (o 3) (o 4) (o 5) (o 6) (o 7) (o 8) b,oP (o 9),oI c,oS (o 11) y.1.length,oN,oI k,oP (o 9),oI a,oG d,oQ e g h (o 10),oF j a (o 12) y.2.length],[oT y.1,oT y.2]) | (Sum.inr (Sum.inr (Sum.inr y)))=>(.bM [],sm [oW (o 3) (o 4) (o 5) (o 6) (o 7) (o 8) b,oP (o 9),oI c,oS (o 11) i.length,oN,oI k,oP (o 9),oI a,oG d,oQ e g h (o 10),oE j],[oT i]):TB)
@[simp] noncomputable def HA := fun a b (o:NM)=>(([.ak (o 0) 0 a.length,.fn (.func 37) [] [aP (o 1)]],[oT a,oG b]):TC)
@[simp] noncomputable def HB := fun a (r:LT) (o:NM)=>((.bM [],sm [oT r,oG a],[]):TB)
@[simp] noncomputable def qU := fun c d e g h i j k l m n p q r s t a b (o:NM)=>(([.nU (o 0),aP (o 1),aP (o 2),aP (o 3)],[oV (o 4) (o 5) (o 6) c d e (o 7),oP (o 8),oI g,oI h,oY (o 9),oI i,oP (o 8),oI j,oQ k l m (o 10),oW (o 11) (o 12) (o 13) (o 14) (o 15) (o 16) n,oF p q (o 17) a.length,oS (o 18) b.length,oN,oI r,oP (o 8),oI s,oG t,oT a,oT b]):TC)
@[simp] noncomputable def qV := fun a b c d e g h i j k l m n s p q (r:(Sum TT TT)) (o:NM)=>(match r with | (Sum.inl y)=>(.bM [],sm [oV (o 4) (o 5) (o 6) a b c (o 7),oP (o 8),oI d,oI e,oY (o 9),oI g,oP (o 8),oI h,oQ i j k (o 10),oW (o 11) (o 12) (o 13) (o 14) (o 15) (o 16) l,oF m n (o 17) y.1.length,oS (o 18) y.2.length,oN,oI s,oP (o 8),oI p,oG q],[oT y.1,oT y.2]) | (Sum.inr y)=>(.bM [],sm [oU (o 4) (o 5) (o 6) a b c (o 7),oP (o 8),oI d,oI e,oY (o 9),oI g,oP (o 8),oI h,oQ i j k (o 10),oX (o 11) (o 12) (o 13) (o 14) (o 15) (o 16) l,oF m n (o 17) y.1.length,oS (o 18) y.2.length,oN,oI 3,oP (o 8),oI p,oG q],[oT y.1,oT y.2]):TB)
@[simp] noncomputable def qW := fun a b c d e g h i j k l m n p q (o:NM)=>(([.nU (o 0),aP (o 1),aP (o 2),aP (o 3)],[oV (o 4) (o 5) (o 6) a b c (o 7),oP (o 8),oI d,oI e,oY (o 9),oI g,oP (o 8),oI h,oQ i j k (o 10),oW (o 11) (o 12) (o 13) (o 14) (o 15) (o 16) l,oE m,oN,oN,oI n,oP (o 8),oI p,oG q]):TC)
@[simp] noncomputable def qX := fun b c d e g h i j k l m n q a p (r:(Sum Unit (Sum TT TT))) (o:NM)=>(match r with | (Sum.inl y)=>(.bM [],sm [oV (o 4) (o 5) (o 6) b c d (o 7),oP (o 8),oI e,oI g,oY (o 9),oI h,oP (o 8),oI i,oQ j k l (o 10),oW (o 11) (o 12) (o 13) (o 14) (o 15) (o 16) m,oE n,oN,oN,oI q,oP (o 8),oI a,oG p],[]) | (Sum.inr (Sum.inl y))=>(.bM [],sm [oV (o 4) (o 5) (o 6) b c d (o 7),oP (o 8),oI e,oI g,oY (o 9),oI h,oP (o 8),oI i,oQ j k l (o 10),oW (o 11) (o 12) (o 13) (o 14) (o 15) (o 16) m,oF n a (o 17) y.1.length,oS (o 18) y.2.length,oN,oI q,oP (o 8),oI a,oG p],[oT y.1,oT y.2]) | (Sum.inr (Sum.inr y))=>(.bM [],sm [oU (o 4) (o 5) (o 6) b c d (o 7),oP (o 8),oI e,oI g,oY (o 9),oI h,oP (o 8),oI i,oQ j k l (o 10),oX (o 11) (o 12) (o 13) (o 14) (o 15) (o 16) m,oF n a (o 17) y.1.length,oS (o 18) y.2.length,oN,oI 3,oP (o 8),oI a,oG p],[oT y.1,oT y.2]):TB)
@[simp] noncomputable def qY := fun b c d e g h i j k l m n p q r a (o:NM)=>(([.nU (o 0),aP (o 1),aP (o 2),aP (o 3)],[oV (o 4) (o 5) (o 6) b c d (o 7),oP (o 8),oI e,oI g,oY (o 9),oI h,oP (o 8),oI i,oQ j k l (o 10),oW (o 11) (o 12) (o 13) (o 14) (o 15) (o 16) m,oE n,oS (o 17) a.length,oN,oI p,oP (o 8),oI q,oG r,oT a]):TC)
@[simp] noncomputable def qZ := fun b c d e g h i j k l m n s a p q (r:(Sum Unit (Sum Unit (Sum TT TT)))) (o:NM)=>(match r with | (Sum.inl y)=>(.bM [],sm [oV (o 4) (o 5) (o 6) b c d (o 7),oP (o 8),oI e,oI g,oY (o 9),oI h,oP (o 8),oI i,oQ j k l (o 10),oW (o 11) (o 12) (o 13) (o 14) (o 15) (o 16) m,oE n,oS (o 17) q.length,oN,oI s,oP (o 8),oI a,oG p],[oT q]) | (Sum.inr (Sum.inl y))=>(.bM [],sm [oU (o 4) (o 5) (o 6) b c d (o 7),oP (o 8),oI e,oI g,oY (o 9),oI h,oP (o 8),oI i,oQ j k l (o 10),oX (o 11) (o 12) (o 13) (o 14) (o 15) (o 16) m,oE n,oS (o 17) q.length,oN,oI 3,oP (o 8),oI a,oG p],[oT q]) | (Sum.inr (Sum.inr (Sum.inl y)))=>(.bM [],sm [oV (o 4) (o 5) (o 6) b c d (o 7),oP (o 8),oI e,oI g,oY (o 9),oI h,oP (o 8),oI i,oQ j k l (o 10),oW (o 11) (o 12) (o 13) (o 14) (o 15) (o 16) m,oF n a (o 17) y.1.length,oS (o 18) y.2.length,oN,oI s,oP (o 8),oI a,oG p],[oT y.1,oT y.2]) | (Sum.inr (Sum.inr (Sum.inr y)))=>(.bM [],sm [oU (o 4) (o 5) (o 6) b c d (o 7),oP (o 8),oI e,oI g,oY (o 9),oI h,oP (o 8),oI i,oQ j k l (o 10),oX (o 11) (o 12) (o 13) (o 14) (o 15) (o 16) m,oF n a (o 17) y.1.length,oS (o 18) y.2.length,oN,oI 3,oP (o 8),oI a,oG p],[oT y.1,oT y.2]):TB)
@[simp] noncomputable def eT := fun c d e g h i j k l m n p q r a s t u b (o:NM)=>(([aT c,aI d,aI e,aP (o 0),aP (o 1),aP (o 2)],[oY (o 3),oP (o 4),.arr 1 [.fn (.func 119) [] [aP (o 0),aP (o 1),aP (o 2)]],oV (o 5) (o 6) (o 7) g h i (o 8),oQ j k l (o 9),oY (o 10),oI m,oP (o 4),oI n,oF p q (o 17) a.length,oW (o 11) (o 12) (o 13) (o 14) (o 15) (o 16) r,oS (o 18) b.length,oN,oI s,oP (o 4),oI t,oG u,oT a,oT b]):TC)
@[simp] noncomputable def eU := fun a b c d e g h i j k l p m n (r:(Sum TT TT)) (o:NM)=>(match r with | (Sum.inl y)=>(aB true,sm [oY (o 3),oP (o 4),.arr 1 [.fn (.func 119) [] [aP (o 0),aP (o 1),aP (o 2)]],oV (o 5) (o 6) (o 7) a b c (o 8),oQ d e g (o 9),oY (o 10),oI h,oP (o 4),oI i,oF j k (o 17) y.1.length,oW (o 11) (o 12) (o 13) (o 14) (o 15) (o 16) l,oS (o 18) y.2.length,oN,oI p,oP (o 4),oI m,oG n],[oT y.1,oT y.2]) | (Sum.inr y)=>(aB false,sm [oY (o 3),oP (o 4),.arr 1 [.fn (.func 119) [] [aP (o 0),aP (o 1),aP (o 2)]],oU (o 5) (o 6) (o 7) a b c (o 8),oQ d e g (o 9),oY (o 10),oI h,oP (o 4),oI i,oF j k (o 17) y.1.length,oX (o 11) (o 12) (o 13) (o 14) (o 15) (o 16) l,oS (o 18) y.2.length,oN,oI 3,oP (o 4),oI m,oG n],[oT y.1,oT y.2]):TB)
@[simp] noncomputable def eV := fun a b c d e g h i j k l m n p q r (o:NM)=>(([aT a,aI b,aI c,aP (o 0),aP (o 1),aP (o 2)],[oY (o 3),oP (o 4),.arr 1 [.fn (.func 119) [] [aP (o 0),aP (o 1),aP (o 2)]],oV (o 5) (o 6) (o 7) d e g (o 8),oQ h i j (o 9),oY (o 10),oI k,oP (o 4),oI l,oE m,oW (o 11) (o 12) (o 13) (o 14) (o 15) (o 16) n,oN,oN,oI p,oP (o 4),oI q,oG r]):TC)
@[simp] noncomputable def cF := fun b c d e g h i j k l n a m (r:(Sum Unit (Sum TT TT))) (o:NM)=>(match r with | (Sum.inl y)=>(aB true,sm [oY (o 3),oP (o 4),.arr 1 [.fn (.func 119) [] [aP (o 0),aP (o 1),aP (o 2)]],oV (o 5) (o 6) (o 7) b c d (o 8),oQ e g h (o 9),oY (o 10),oI i,oP (o 4),oI j,oE k,oW (o 11) (o 12) (o 13) (o 14) (o 15) (o 16) l,oN,oN,oI n,oP (o 4),oI a,oG m],[]) | (Sum.inr (Sum.inl y))=>(aB true,sm [oY (o 3),oP (o 4),.arr 1 [.fn (.func 119) [] [aP (o 0),aP (o 1),aP (o 2)]],oV (o 5) (o 6) (o 7) b c d (o 8),oQ e g h (o 9),oY (o 10),oI i,oP (o 4),oI j,oF k a (o 17) y.1.length,oW (o 11) (o 12) (o 13) (o 14) (o 15) (o 16) l,oS (o 18) y.2.length,oN,oI n,oP (o 4),oI a,oG m],[oT y.1,oT y.2]) | (Sum.inr (Sum.inr y))=>(aB false,sm [oY (o 3),oP (o 4),.arr 1 [.fn (.func 119) [] [aP (o 0),aP (o 1),aP (o 2)]],oU (o 5) (o 6) (o 7) b c d (o 8),oQ e g h (o 9),oY (o 10),oI i,oP (o 4),oI j,oF k a (o 17) y.1.length,oX (o 11) (o 12) (o 13) (o 14) (o 15) (o 16) l,oS (o 18) y.2.length,oN,oI 3,oP (o 4),oI a,oG m],[oT y.1,oT y.2]):TB)
@[simp] noncomputable def eW := fun b c d e g h i j k l m n p q r s a (o:NM)=>(([aT b,aI c,aI d,aP (o 0),aP (o 1),aP (o 2)],[oY (o 3),oP (o 4),.arr 1 [.fn (.func 119) [] [aP (o 0),aP (o 1),aP (o 2)]],oV (o 5) (o 6) (o 7) e g h (o 8),oQ i j k (o 9),oY (o 10),oI l,oP (o 4),oI m,oE n,oW (o 11) (o 12) (o 13) (o 14) (o 15) (o 16) p,oS (o 17) a.length,oN,oI q,oP (o 4),oI r,oG s,oT a]):TC)
@[simp] noncomputable def cG := fun b c d e g h i j k l p a m n (r:(Sum Unit (Sum Unit (Sum TT TT)))) (o:NM)=>(match r with | (Sum.inl y)=>(aB true,sm [oY (o 3),oP (o 4),.arr 1 [.fn (.func 119) [] [aP (o 0),aP (o 1),aP (o 2)]],oV (o 5) (o 6) (o 7) b c d (o 8),oQ e g h (o 9),oY (o 10),oI i,oP (o 4),oI j,oE k,oW (o 11) (o 12) (o 13) (o 14) (o 15) (o 16) l,oS (o 17) n.length,oN,oI p,oP (o 4),oI a,oG m],[oT n]) | (Sum.inr (Sum.inl y))=>(aB false,sm [oY (o 3),oP (o 4),.arr 1 [.fn (.func 119) [] [aP (o 0),aP (o 1),aP (o 2)]],oU (o 5) (o 6) (o 7) b c d (o 8),oQ e g h (o 9),oY (o 10),oI i,oP (o 4),oI j,oE k,oX (o 11) (o 12) (o 13) (o 14) (o 15) (o 16) l,oS (o 17) n.length,oN,oI 3,oP (o 4),oI a,oG m],[oT n]) | (Sum.inr (Sum.inr (Sum.inl y)))=>(aB true,sm [oY (o 3),oP (o 4),.arr 1 [.fn (.func 119) [] [aP (o 0),aP (o 1),aP (o 2)]],oV (o 5) (o 6) (o 7) b c d (o 8),oQ e g h (o 9),oY (o 10),oI i,oP (o 4),oI j,oF k a (o 17) y.1.length,oW (o 11) (o 12) (o 13) (o 14) (o 15) (o 16) l,oS (o 18) y.2.length,oN,oI p,oP (o 4),oI a,oG m],[oT y.1,oT y.2]) | (Sum.inr (Sum.inr (Sum.inr y)))=>(aB false,sm [oY (o 3),oP (o 4),.arr 1 [.fn (.func 119) [] [aP (o 0),aP (o 1),aP (o 2)]],oU (o 5) (o 6) (o 7) b c d (o 8),oQ e g h (o 9),oY (o 10),oI i,oP (o 4),oI j,oF k a (o 17) y.1.length,oX (o 11) (o 12) (o 13) (o 14) (o 15) (o 16) l,oS (o 18) y.2.length,oN,oI 3,oP (o 4),oI a,oG m],[oT y.1,oT y.2]):TB)
@[simp] noncomputable def eO := fun a (o:NM)=>(([aT a,.fn (.func 51) [] []],[]):TC)
@[simp] noncomputable def eP := fun(r:LT) (o:NM)=>((aT r,[],[]):TB)
noncomputable def vh (bs:List Nat)  (r:(LT×Int)):St:=Nq Tryz.prog (gV 0 (fo r)) bs (sN 16 (Q0 (aB false) (Gs 0 (iB dd) [] 3) (sN 2 (Gq (aB false) (Gs 1 (dz iA) [0] 3) (sN 4 (aF (aB false) none (sN 3 (aF (aB false) none (sN 3 (aF (aB false) none (sN 0 (aF (aI 0) none (sN 4 (aF (aB true) none (sN 4 (aF (aB true) none (sN 2 (aF (aB false) none (sN 0 (aF (aI 0) none (sN 6 (CR Tryz.prog (gV 0 (fo r)) (sN 0 (St.start T0 7 ((dz nc id).1) (oL 0 (lY 0 ((dz nc id).2)))))))))))))))))))))))))))
noncomputable def qF := fun(bs:List Nat) (r:(LT×Int)) a0 c a2 a3 a b=>ng (vh bs r) 8 fun o=>([[(11,aP (o 6)),(8,aP (o 1)),(9,aP (o 2)),(10,aP (o 5)),(12,aP (o 7)),(4,aP (o 0)),(3,aI a3)]],[((o 6),oN),((o 1),oN),((o 2),oI 0),((o 5),oP (o 4)),((o 7),oI a),((o 0),oG a0),((o 4),oQ a0 c a2 (o 3)),((o 3),oE b)])
noncomputable def ni : St:=sN 2 (aF (aI 0) none (sN 4 (St.start T0 77 ((dz fR id).1) (oL 1 (lY 0 ((dz fR id).2))))))
noncomputable def nj := fun b c a=>ng ni 1 fun o=>([[(0,aN b),(1,.fn (.func 33) [] [aP (o 0)]),(7,aI (b.length:Int)),(8,aI a)]],[((o 0),oG c)])
noncomputable def nk : St:=sN 2 (aF (aI 0) none (sN 4 (St.start T0 77 ((fS dd id).1) (oL 0 (lY 0 ((fS dd id).2))))))
noncomputable def np := fun b a=>ng nk 0 fun o=>([[(0,aN b),(1,.fn (.func 34) [] []),(7,aI (b.length:Int)),(8,aI a)]],[])
noncomputable def qH (bs:List Nat)(dr cM dt a124:Int)(a db:ae)(b cr:LI)(c:LM)(r:(Sum TT (Sum TT Unit))):St:=Nq Tryz.prog (gV 11 (aZ dr cM dt a124 a db b cr c r)) bs (sN 2 (aF (aI 0) none (sN 7 (CR Tryz.prog (gV 11 (aZ dr cM dt a124 a db b cr c r)) (sN 0 (St.start T0 78 ((dz iD id).1) (oL 11 (lY 0 ((dz iD id).2)))))))))
noncomputable def ij := fun(bs:List Nat) (r:(Sum TT (Sum TT Unit))) dr cM dt a124 a db b cr c d=>ng (qH bs dr cM dt a124 a db b cr c r) 12 fun o=>([[(3,aP (o 11)),(2,aP (o 2)),(12,aN cr),(1,aP (o 1)),(13,aI (cr.length:Int)),(14,aI d)]],[((o 11),oY (o 0)),((o 2),oI cM),((o 1),oP (o 9)),((o 0),oW (o 3) (o 4) (o 5) (o 6) (o 7) (o 8) dr),((o 3),oN),((o 4),oN),((o 5),oI dt),((o 6),oP (o 9)),((o 7),oI a124),((o 8),oG a),((o 9),oQ db b cr (o 10)),((o 10),oE c)])
noncomputable def pS (bs:List Nat)(a b c d:Int)(e g:ae)(h i:LI)(j:LT)(k:LM)(r:(Sum Unit (Sum TT (Sum TT Unit)))):St:=Nq Tryz.prog (gV 11 (bk a b c d e g h i j k r)) bs (sN 2 (aF (aI 0) none (sN 7 (CR Tryz.prog (gV 11 (bk a b c d e g h i j k r)) (sN 0 (St.start T0 78 ((dz ig id).1) (oL 12 (lY 0 ((dz ig id).2)))))))))
noncomputable def gM := fun(bs:List Nat) (r:(Sum Unit (Sum TT (Sum TT Unit)))) c d e g h i j a b k l=>ng (pS bs c d e g h i j a b k r) 13 fun o=>([[(3,aP (o 12)),(2,aP (o 2)),(12,aN a),(1,aP (o 1)),(13,aI (a.length:Int)),(14,aI l)]],[((o 12),oY (o 0)),((o 2),oI d),((o 1),oP (o 9)),((o 0),oW (o 3) (o 4) (o 5) (o 6) (o 7) (o 8) c),((o 3),oS (o 11) b.length),((o 4),oN),((o 5),oI e),((o 6),oP (o 9)),((o 7),oI g),((o 8),oG h),((o 9),oQ i j a (o 10)),((o 10),oE k),((o 11),oT b)])
noncomputable def pr : St:=sN 3 (aF (aB false) none (sN 4 (St.start T0 119 ((dz eT id).1) (oL 19 (lY 0 ((dz eT id).2))))))
noncomputable def j3 := fun d e g h i j k l m n p q r s (x:LT) t u w (y:LT) c a b=>ng pr 19 fun o=>([[(10,aI c),(2,aI g),(1,aI e),(0,aT d),(5,aP (o 2)),(4,aP (o 1))]],[((o 2),.arr 1 [.fn (.func 119) [] [aP (o 0),aP (o 1),aP (o 2)]]),((o 1),oP (o 4)),((o 0),oY (o 3)),((o 3),oV (o 5) (o 6) (o 7) h i j (o 8)),((o 4),oQ k l m (o 9)),((o 5),oY (o 10)),((o 6),oI n),((o 7),oP (o 4)),((o 8),oI p),((o 9),oF q r (o 17) a.length),((o 10),oW (o 11) (o 12) (o 13) (o 14) (o 15) (o 16) s),((o 11),oS (o 18) b.length),((o 12),oN),((o 13),oI t),((o 14),oP (o 4)),((o 15),oI u),((o 16),oG w),((o 17),oT a),((o 18),oT b)])
noncomputable def pt : St:=sN 3 (aF (aB false) none (sN 4 (St.start T0 119 ((dz eV id).1) (oL 17 (lY 0 ((dz eV id).2))))))
noncomputable def j4 := fun b c d e g h i j k l m n p q r s a=>ng pt 17 fun o=>([[(10,aI a),(2,aI d),(1,aI c),(0,aT b),(5,aP (o 2)),(4,aP (o 1))]],[((o 2),.arr 1 [.fn (.func 119) [] [aP (o 0),aP (o 1),aP (o 2)]]),((o 1),oP (o 4)),((o 0),oY (o 3)),((o 3),oV (o 5) (o 6) (o 7) e g h (o 8)),((o 4),oQ i j k (o 9)),((o 5),oY (o 10)),((o 6),oI l),((o 7),oP (o 4)),((o 8),oI m),((o 9),oE n),((o 10),oW (o 11) (o 12) (o 13) (o 14) (o 15) (o 16) p),((o 11),oN),((o 12),oN),((o 13),oI q),((o 14),oP (o 4)),((o 15),oI r),((o 16),oG s)])
noncomputable def pw : St:=sN 3 (aF (aB false) none (sN 4 (St.start T0 119 ((dz eW id).1) (oL 18 (lY 0 ((dz eW id).2))))))
noncomputable def j5 := fun c d e g h i j k l m n p q r s t a b=>ng pw 18 fun o=>([[(10,aI b),(2,aI e),(1,aI d),(0,aT c),(5,aP (o 2)),(4,aP (o 1))]],[((o 2),.arr 1 [.fn (.func 119) [] [aP (o 0),aP (o 1),aP (o 2)]]),((o 1),oP (o 4)),((o 0),oY (o 3)),((o 3),oV (o 5) (o 6) (o 7) g h i (o 8)),((o 4),oQ j k l (o 9)),((o 5),oY (o 10)),((o 6),oI m),((o 7),oP (o 4)),((o 8),oI n),((o 9),oE p),((o 10),oW (o 11) (o 12) (o 13) (o 14) (o 15) (o 16) q),((o 11),oS (o 17) a.length),((o 12),oN),((o 13),oI r),((o 14),oP (o 4)),((o 15),oI s),((o 16),oG t),((o 17),oT a)])
noncomputable def lQ : St:=sN 2 (aF (aI 0) none (sN 6 (St.start T0 50 ((eO dd id).1) (oL 0 (lY 0 ((eO dd id).2))))))
noncomputable def gT := fun a=>ng lQ 0 fun o=>([[(1,.fn (.func 51) [] []),(8,aT a),(9,aI (a.length:Int)),(10,aI 0),(5,.ax)]],[])
noncomputable def vi (bs:List Nat)  (r:(LT×Int)):St:=Nq Tryz.prog (gV 0 (fo r)) bs (sN 0 (zN 13 3 (.mp []) (sN 2 (aF (aI 0) none (sN 10 (Qe Tryz.prog (gV 0 (fo r)) 10 0 [] (sN 0 (CV [3,4,8,9,10,10,11,11,11,12,13,13,13,61,62,63,64,65,66,67,68,69,70,71,72,73,74,75,76,77,78,79,79,80,81,82,83,83,84] (Gs 11 (aZ dd dd dd dd dd dd dd dd dd (Sum.inr (Sum.inl dd))) [11,8,9,6,1,2,5,7,0,4,3] 12) (sN 1 (Gq (.fn (.func 78) [] [aP 8,aP 9]) (Gs 2 (dz mF) [4,3] 8) (sN 4 (aF (aB true) none (sN 3 (qF [] dd dd dd dd dd dd dd))))))))))))))
noncomputable def vj := fun(bs:List Nat) (r:(LT×Int)) a0 d a2 a3 b a c=>ng (vi bs r) 15 fun o=>([[(11,aP (o 6)),(8,aP (o 1)),(9,aP (o 2)),(10,aP (o 5)),(12,aP (o 14)),(4,aP (o 0)),(3,aI a3)]],[((o 6),oS (o 12) a.length),((o 1),oN),((o 2),oI 0),((o 5),oP (o 4)),((o 14),oI b),((o 0),oG a0),((o 12),oT a),((o 4),oQ a0 d a2 (o 3)),((o 3),oE c)])
noncomputable def qI (bs:List Nat)(dr cM dt a124:Int)(a db:ae)(b cr:LI)(c:LM)(r:(Sum TT (Sum TT Unit))):St:=Nq Tryz.prog (gV 11 (aZ dr cM dt a124 a db b cr c r)) bs (sN 2 (aF (aI 0) none (sN 8 (jG (fun S=>.skip (S.set 16 (.arr 3 []))) (sN 0 (xE (fun S=>.val (aP 16) S) (sN 0 (jG (fun S=>.val (.ak 16 0 0) (S.add (.arr 3 []))) (sN 6 (jG (fun S=>.skip (S.set 10 (.mp []))) (sN 0 (jG (fun S=>.val (.ak 14 0 0) (S.add (.arr 3 []))) (sN 2 (xE (fun S=>.val (.ax) S) (sN 15 (Et 12 (.arr 3 [.agg [aI 2,aI 0,.lit []]]) (sN 11 (aF (aB true) none (sN 4 (aF (.fa [aI 0]) none (sN 3 (aF (aB true) none (sN 1 (ij [] r dr cM dt a124 a db b cr c dd))))))))))))))))))))))))
noncomputable def kP := fun(bs:List Nat) (r:(Sum TT (Sum TT Unit))) dr cM dt a124 c db d cr e g a b=>ng (qI bs dr cM dt a124 c db d cr e r) 17 fun o=>([[(3,aP (o 11)),(2,aP (o 2)),(12,aN cr),(1,aP (o 1)),(13,aI (cr.length:Int)),(14,aI g)]],[((o 11),oY (o 0)),((o 2),oI cM),((o 1),oP (o 9)),((o 0),oW (o 3) (o 4) (o 5) (o 6) (o 7) (o 8) dr),((o 3),oS (o 16) a.length),((o 4),oN),((o 5),oI dt),((o 6),oP (o 9)),((o 7),oI a124),((o 8),oG c),((o 9),oQ db d cr (o 10)),((o 10),oF e a124 (o 14) b.length),((o 16),oT a),((o 14),oT b)])
noncomputable def pT (bs:List Nat)(a b c d:Int)(e g:ae)(h i:LI)(j:LT)(k:LM)(r:(Sum Unit (Sum TT (Sum TT Unit)))):St:=Nq Tryz.prog (gV 11 (bk a b c d e g h i j k r)) bs (sN 2 (aF (aI 0) none (sN 8 (jG (fun S=>.skip (S.set 17 (.arr 3 []))) (sN 0 (xE (fun S=>.val (aP 17) S) (sN 0 (jG (fun S=>.val (.ak 17 0 0) ((S.del 11).add (.arr 3 []))) (sN 6 (jG (fun S=>.skip (S.set 10 (.mp []))) (sN 0 (jG (fun S=>.val (.ak 15 0 0) (S.add (.arr 3 []))) (sN 2 (xE (fun S=>.val (.ax) S) (sN 12 (aF (aB false) none (sN 2 (Et 13 (.arr 3 [.agg [aI 2,aI 0,.lit []]]) (sN 11 (aF (aB true) none (sN 4 (aF (.fa [aI 0]) none (sN 3 (aF (aB true) none (sN 1 (gM [] r a b c d e g h i j k dd))))))))))))))))))))))))))
noncomputable def kz := fun(bs:List Nat) (r:(Sum Unit (Sum TT (Sum TT Unit)))) e g h b i j k a (n:LT) l m c d=>ng (pT bs e g h b i j k a n l r) 18 fun o=>([[(3,aP (o 12)),(2,aP (o 2)),(12,aN a),(1,aP (o 1)),(13,aI (a.length:Int)),(14,aI m)]],[((o 12),oY (o 0)),((o 2),oI g),((o 1),oP (o 9)),((o 0),oW (o 3) (o 4) (o 5) (o 6) (o 7) (o 8) e),((o 3),oS (o 17) c.length),((o 4),oN),((o 5),oI h),((o 6),oP (o 9)),((o 7),oI b),((o 8),oG i),((o 9),oQ j k a (o 10)),((o 10),oF l b (o 15) d.length),((o 17),oT c),((o 15),oT d)])
noncomputable def px : St:=sN 2 (aF (aI 0) none (sN 0 (jG (fun S=>.val (.lit []) S) (sN 7 (aF (aB true) none (sN 0 (aF (aI 0) none (sN 0 (aF (aI 0) none (sN 4 (dz j3)))))))))))
noncomputable def py := fun h i j k l m n p q r s t u w (A:LT) x y z (B:LT) c d e g a b=>ng px 19 fun o=>([[(10,aI c),(2,aI j),(1,aI i),(0,aT h),(5,aP (o 2)),(35,aT d),(4,aP (o 1)),(36,aI e),(37,aI g)]],[((o 2),.arr 1 [.fn (.func 119) [] [aP (o 0),aP (o 1),aP (o 2)]]),((o 1),oP (o 4)),((o 0),oY (o 3)),((o 3),oV (o 5) (o 6) (o 7) k l m (o 8)),((o 4),oQ n p q (o 9)),((o 5),oY (o 10)),((o 6),oI r),((o 7),oP (o 4)),((o 8),oI s),((o 9),oF t u (o 17) a.length),((o 10),oW (o 11) (o 12) (o 13) (o 14) (o 15) (o 16) w),((o 11),oS (o 18) b.length),((o 12),oN),((o 13),oI x),((o 14),oP (o 4)),((o 15),oI y),((o 16),oG z),((o 17),oT a),((o 18),oT b)])
noncomputable def pz : St:=sN 2 (aF (aI 0) none (sN 0 (jG (fun S=>.val (.lit []) S) (sN 7 (aF (aB true) none (sN 0 (aF (aI 0) none (sN 0 (aF (aI 0) none (sN 4 (dz j4)))))))))))
noncomputable def j6 := fun d e g h i j k l m n p b q r s t a c=>ng pz 17 fun o=>([[(10,aI a),(2,aI g),(1,aI e),(0,aT d),(5,aP (o 2)),(35,aT ((cD b a).getD ([]:LT))),(4,aP (o 1)),(36,aI (((cD b a).getD ([]:LT)).length:Int)),(37,aI c)]],[((o 2),.arr 1 [.fn (.func 119) [] [aP (o 0),aP (o 1),aP (o 2)]]),((o 1),oP (o 4)),((o 0),oY (o 3)),((o 3),oV (o 5) (o 6) (o 7) h i j (o 8)),((o 4),oQ k l m (o 9)),((o 5),oY (o 10)),((o 6),oI n),((o 7),oP (o 4)),((o 8),oI p),((o 9),oE b),((o 10),oW (o 11) (o 12) (o 13) (o 14) (o 15) (o 16) q),((o 11),oN),((o 12),oN),((o 13),oI r),((o 14),oP (o 4)),((o 15),oI s),((o 16),oG t)])
noncomputable def pA : St:=sN 2 (aF (aI 0) none (sN 0 (jG (fun S=>.val (.lit []) S) (sN 7 (aF (aB true) none (sN 0 (aF (aI 0) none (sN 0 (aF (aI 0) none (sN 4 (dz j5)))))))))))
noncomputable def j7 := fun e g h i j k l m n p q b r s t u c a d=>ng pA 18 fun o=>([[(10,aI a),(2,aI h),(1,aI g),(0,aT e),(5,aP (o 2)),(35,aT ((cD b a).getD ([]:LT))),(4,aP (o 1)),(36,aI (((cD b a).getD ([]:LT)).length:Int)),(37,aI d)]],[((o 2),.arr 1 [.fn (.func 119) [] [aP (o 0),aP (o 1),aP (o 2)]]),((o 1),oP (o 4)),((o 0),oY (o 3)),((o 3),oV (o 5) (o 6) (o 7) i j k (o 8)),((o 4),oQ l m n (o 9)),((o 5),oY (o 10)),((o 6),oI p),((o 7),oP (o 4)),((o 8),oI q),((o 9),oE b),((o 10),oW (o 11) (o 12) (o 13) (o 14) (o 15) (o 16) r),((o 11),oS (o 17) c.length),((o 12),oN),((o 13),oI s),((o 14),oP (o 4)),((o 15),oI t),((o 16),oG u),((o 17),oT c)])
noncomputable def lR : St:=sN 6 (jG (fun S=>.val (.ak 2 0 0) (S.add (.arr 3 []))) (sN 1 (aF (.agg [aI 0,aI 0,.lit []]) none (sN 7 (aF (.fa [aI 0,aI 0,.lit []]) none (sN 3 (aF (aB true) none (sN 1 (gT dd)))))))))
noncomputable def lS := fun b c a=>ng lR 3 fun o=>([[(1,.fn (.func 51) [] []),(8,aT b),(9,aI (b.length:Int)),(10,aI c),(5,.ak (o 2) 0 a.length)]],[((o 2),oT a)])
noncomputable def qJ (bs:List Nat)(dr cM dt a124:Int)(a db:ae)(b cr:LI)(c:LM)(r:(Sum TT (Sum TT Unit))):St:=Nq Tryz.prog (gV 11 (aZ dr cM dt a124 a db b cr c r)) bs (sN 2 (aF (aI 0) none (sN 6 (aF (aB false) none (sN 1 (kP [] r dr cM dt a124 a db b cr c dd dd dd))))))
noncomputable def qK := fun(bs:List Nat) (r:(Sum TT (Sum TT Unit))) dr cM dt a124 d db a cr e g b c=>ng (qJ bs dr cM dt a124 d db a cr e r) 17 fun o=>([[(3,aP (o 11)),(2,aP (o 2)),(1,aP (o 1)),(31,aN a),(32,aI (a.length:Int)),(33,aI g)]],[((o 11),oY (o 0)),((o 2),oI cM),((o 1),oP (o 9)),((o 0),oW (o 3) (o 4) (o 5) (o 6) (o 7) (o 8) dr),((o 3),oS (o 16) b.length),((o 4),oN),((o 5),oI dt),((o 6),oP (o 9)),((o 7),oI a124),((o 8),oG d),((o 9),oQ db a cr (o 10)),((o 10),oF e a124 (o 14) c.length),((o 16),oT b),((o 14),oT c)])
noncomputable def pU (bs:List Nat)(a b c d:Int)(e g:ae)(h i:LI)(j:LT)(k:LM)(r:(Sum Unit (Sum TT (Sum TT Unit)))):St:=Nq Tryz.prog (gV 11 (bk a b c d e g h i j k r)) bs (sN 2 (aF (aI 0) none (sN 6 (aF (aB false) none (sN 1 (kz [] r a b c d e g h i j k dd dd dd))))))
noncomputable def pV := fun(bs:List Nat) (r:(Sum Unit (Sum TT (Sum TT Unit)))) e g h b i j a k (n:LT) l m c d=>ng (pU bs e g h b i j a k n l r) 18 fun o=>([[(3,aP (o 12)),(2,aP (o 2)),(1,aP (o 1)),(31,aN a),(32,aI (a.length:Int)),(33,aI m)]],[((o 12),oY (o 0)),((o 2),oI g),((o 1),oP (o 9)),((o 0),oW (o 3) (o 4) (o 5) (o 6) (o 7) (o 8) e),((o 3),oS (o 17) c.length),((o 4),oN),((o 5),oI h),((o 6),oP (o 9)),((o 7),oI b),((o 8),oG i),((o 9),oQ j a k (o 10)),((o 10),oF l b (o 15) d.length),((o 17),oT c),((o 15),oT d)])
noncomputable def pB : St:=sN 2 (aF (aI 0) none (sN 4 (Gq (aB true) (Gs 17 (cF dd dd dd dd dd dd dd dd dd dd dd dd dd (Sum.inr (Sum.inl dd))) [0,1,2,3,4,5,6,7,8,9,10,11,12,13,14,15,16] 20) (sN 0 (aF (aI 0) none (sN 2 (aF (aI 0) none (sN 1 (jG (fun S=>.val (.lit []) (bump S)) (sN 2 (aF (.clip (.lit [])) none (sN 7 (aF (.fa [aI 0,aI 0,.lit []]) none (sN 3 (aF (aB true) none (sN 1 (dz j6)))))))))))))))))
noncomputable def j8 := fun i j k l m n p q r s t u w x c y d e g h a b=>ng pB 22 fun o=>([[(10,aI d),(2,aI k),(1,aI j),(0,aT i),(5,aP (o 2)),(35,aT e),(4,aP (o 1)),(36,aI g),(37,aI h)]],[((o 2),.arr 1 [.fn (.func 119) [] [aP (o 0),aP (o 1),aP (o 2)]]),((o 1),oP (o 4)),((o 0),oY (o 3)),((o 3),oV (o 5) (o 6) (o 7) l m n (o 8)),((o 4),oQ p q r (o 9)),((o 5),oY (o 10)),((o 6),oI s),((o 7),oP (o 4)),((o 8),oI t),((o 9),oF u c (o 20) a.length),((o 10),oW (o 11) (o 12) (o 13) (o 14) (o 15) (o 16) w),((o 11),oS (o 21) b.length),((o 12),oN),((o 13),oI x),((o 14),oP (o 4)),((o 15),oI c),((o 16),oG y),((o 20),oT a),((o 21),oT b)])
noncomputable def pC : St:=sN 2 (aF (aI 0) none (sN 4 (Gq (aB true) (Gs 17 (cG dd dd dd dd dd dd dd dd dd dd dd dd dd dd (Sum.inr (Sum.inr (Sum.inl dd)))) [0,1,2,3,4,5,6,7,8,9,10,11,12,13,14,15,16,17] 21) (sN 0 (aF (aI 0) none (sN 2 (aF (aI 0) none (sN 1 (jG (fun S=>.val (.lit []) (bump S)) (sN 2 (aF (.clip (.lit [])) none (sN 7 (aF (.fa [aI 0,aI 0,.lit []]) none (sN 3 (aF (aB true) none (sN 1 (dz j7)))))))))))))))))
noncomputable def j9 := fun i j k l m n p q r s t u w x c y (z:LT) d e g h a b=>ng pC 23 fun o=>([[(10,aI d),(2,aI k),(1,aI j),(0,aT i),(5,aP (o 2)),(35,aT e),(4,aP (o 1)),(36,aI g),(37,aI h)]],[((o 2),.arr 1 [.fn (.func 119) [] [aP (o 0),aP (o 1),aP (o 2)]]),((o 1),oP (o 4)),((o 0),oY (o 3)),((o 3),oV (o 5) (o 6) (o 7) l m n (o 8)),((o 4),oQ p q r (o 9)),((o 5),oY (o 10)),((o 6),oI s),((o 7),oP (o 4)),((o 8),oI t),((o 9),oF u c (o 21) a.length),((o 10),oW (o 11) (o 12) (o 13) (o 14) (o 15) (o 16) w),((o 11),oS (o 22) b.length),((o 12),oN),((o 13),oI x),((o 14),oP (o 4)),((o 15),oI c),((o 16),oG y),((o 21),oT a),((o 22),oT b)])
noncomputable def qL (bs:List Nat)(dr cM dt a124:Int)(a db:ae)(b cr:LI)(c:LM)(r:(Sum TT (Sum TT Unit))):St:=Nq Tryz.prog (gV 11 (aZ dr cM dt a124 a db b cr c r)) bs (sN 2 (aF (aI 0) none (sN 6 (aF (aB false) none (sN 1 (ij [] r dr cM dt a124 a db b cr c dd))))))
noncomputable def qM := fun(bs:List Nat) (r:(Sum TT (Sum TT Unit))) dr cM dt a124 b db a cr c d=>ng (qL bs dr cM dt a124 b db a cr c r) 12 fun o=>([[(3,aP (o 11)),(2,aP (o 2)),(1,aP (o 1)),(31,aN a),(32,aI (a.length:Int)),(33,aI d)]],[((o 11),oY (o 0)),((o 2),oI cM),((o 1),oP (o 9)),((o 0),oW (o 3) (o 4) (o 5) (o 6) (o 7) (o 8) dr),((o 3),oN),((o 4),oN),((o 5),oI dt),((o 6),oP (o 9)),((o 7),oI a124),((o 8),oG b),((o 9),oQ db a cr (o 10)),((o 10),oE c)])
noncomputable def pW (bs:List Nat)(a b c d:Int)(e g:ae)(h i:LI)(j:LT)(k:LM)(r:(Sum Unit (Sum TT (Sum TT Unit)))):St:=Nq Tryz.prog (gV 11 (bk a b c d e g h i j k r)) bs (sN 2 (aF (aI 0) none (sN 6 (aF (aB false) none (sN 1 (gM [] r a b c d e g h i j k dd))))))
noncomputable def pX := fun(bs:List Nat) (r:(Sum Unit (Sum TT (Sum TT Unit)))) c d e g h i a j b k l=>ng (pW bs c d e g h i a j b k r) 13 fun o=>([[(3,aP (o 12)),(2,aP (o 2)),(1,aP (o 1)),(31,aN a),(32,aI (a.length:Int)),(33,aI l)]],[((o 12),oY (o 0)),((o 2),oI d),((o 1),oP (o 9)),((o 0),oW (o 3) (o 4) (o 5) (o 6) (o 7) (o 8) c),((o 3),oS (o 11) b.length),((o 4),oN),((o 5),oI e),((o 6),oP (o 9)),((o 7),oI g),((o 8),oG h),((o 9),oQ i a j (o 10)),((o 10),oE k),((o 11),oT b)])
noncomputable def pD : St:=sN 2 (aF (aI 0) none (sN 4 (aF (aB false) none (sN 1 (dz j8)))))
noncomputable def pE := fun e g h i j k l m n p q r s t c u d a b=>ng pD 22 fun o=>([[(10,aI d),(2,aI h),(1,aI g),(0,aT e),(5,aP (o 2)),(4,aP (o 1))]],[((o 2),.arr 1 [.fn (.func 119) [] [aP (o 0),aP (o 1),aP (o 2)]]),((o 1),oP (o 4)),((o 0),oY (o 3)),((o 3),oV (o 5) (o 6) (o 7) i j k (o 8)),((o 4),oQ l m n (o 9)),((o 5),oY (o 10)),((o 6),oI p),((o 7),oP (o 4)),((o 8),oI q),((o 9),oF r c (o 20) a.length),((o 10),oW (o 11) (o 12) (o 13) (o 14) (o 15) (o 16) s),((o 11),oS (o 21) b.length),((o 12),oN),((o 13),oI t),((o 14),oP (o 4)),((o 15),oI c),((o 16),oG u),((o 20),oT a),((o 21),oT b)])
noncomputable def pF : St:=sN 2 (aF (aI 0) none (sN 4 (aF (aB false) none (sN 1 (dz j9)))))
noncomputable def pG := fun e g h i j k l m n p q r s t c u (w:LT) d a b=>ng pF 23 fun o=>([[(10,aI d),(2,aI h),(1,aI g),(0,aT e),(5,aP (o 2)),(4,aP (o 1))]],[((o 2),.arr 1 [.fn (.func 119) [] [aP (o 0),aP (o 1),aP (o 2)]]),((o 1),oP (o 4)),((o 0),oY (o 3)),((o 3),oV (o 5) (o 6) (o 7) i j k (o 8)),((o 4),oQ l m n (o 9)),((o 5),oY (o 10)),((o 6),oI p),((o 7),oP (o 4)),((o 8),oI q),((o 9),oF r c (o 21) a.length),((o 10),oW (o 11) (o 12) (o 13) (o 14) (o 15) (o 16) s),((o 11),oS (o 22) b.length),((o 12),oN),((o 13),oI t),((o 14),oP (o 4)),((o 15),oI c),((o 16),oG u),((o 21),oT a),((o 22),oT b)])
def kx (a17:Int)(mG:ae):Option Bool:=
 if decide (a17<0) then(some true) else(if decide (a17≥(mG.Cons.length:Int)) then(some true) else(some false))
set_option maxRecDepth 100000 in
theorem tJ (a17:Int)(mG:ae)(r:Bool)(h:kx a17 mG=some r):gj Tryz.prog 33 1 (uh a17 mG) (ui mG r):=by
 unfold kx at h
 refine kj EE 1 ?_
 refine yB EE 4 h (fun a h=>?_) (fun a h=>?_)
 · cases h
   exact iH EE 10 (aB true) [0] (.pure pv) uT ah
 · refine zL 4 aR mG.Cons ?_
   refine yB EE 0 h (fun b h=>?_) (fun b h=>?_)
   · cases h
     exact iH EE 4 (aB true) [0] (.pure pv) uT ah
   · cases h
     exact iH EE 4 (aB false) [0] (.pure pv) uT ah
def ky (a59:Int):Option Bool:=
 if decide (a59<(-1000000)) then(some true) else(if decide (a59>1000000) then(some true) else(some false))
set_option maxRecDepth 100000 in
theorem tK (a59:Int)(r:Bool)(h:ky a59=some r):gj Tryz.prog 34 0 (uj a59) (uk r):=by
 unfold ky at h
 refine kj EE 0 ?_
 refine yB EE 4 h (fun a h=>?_) (fun a h=>?_)
 · cases h
   exact iH EE 7 (aB true) [] (.pure pv) bg ah
 · refine yB EE 2 h (fun b h=>?_) (fun b h=>?_)
   · cases h
     exact iH EE 4 (aB true) [] (.pure pv) bg ah
   · cases h
     exact iH EE 4 (aB false) [] (.pure pv) bg ah
def ev (b:Int)(Kx:ae)(c Ns:LI)(a:LM):Option Unit:=
 some ()
set_option maxRecDepth 100000 in
theorem lK (b:Int)(Kx:ae)(c Ns:LI)(a:LM)(r:Unit)(h:ev b Kx c Ns a=some r):gj Tryz.prog 35 2 (sg b Kx c Ns a) (mF b Kx c Ns a r):=by
 unfold ev at h
 refine kj EE 2 ?_
 cases h
 exact iH EE 9 (.fn (.func 78) [] [aP 2,aP 3]) [0,1,2,3] (gJ.Qw dn.nil (dn.cons (gJ.n4 (j:=2) rfl) (dn.cons (gJ.n4 (j:=3) rfl) dn.nil))) uT (ua (oP 0) (ua (oI b) ah))
def Dc (wY:ae):Option Unit:=
 some ()
set_option maxRecDepth 100000 in
theorem HC (wY:ae)(r:Unit)(h:Dc wY=some r):gj Tryz.prog 36 1 (J0 wY) (J1 wY r):=by
 intro S nx ids a
 match ids,a with
 | [o0],a=>exact JY S o0 _ a.2.2.2.1.1
 | [],a=>exact a.2.2.2.elim
 | _::_::_,a=>exact a.2.2.2.2.elim
def ew (yq a:Int)(zx:ae)(b A8:LI)(c:LM)(zy:Int)(d:LT):Option Unit:=
 some ()
set_option maxRecDepth 100000 in
theorem lL (yq a:Int)(zx:ae)(c A8:LI)(d:LM)(zy:Int)(b:LT)(r:Unit)(h:ew yq a zx c A8 d zy b=some r):gj Tryz.prog 79 2 (sh yq a zx c A8 d zy b) (sj yq a zx c A8 d zy b r):=by
 unfold ew at h
 refine kj EE 3 ?_
 cases h
 exact iH EE 10 (.fn (.func 118) [] [aP 3,aP 4,aP 5]) [0,1,2,3,4,5] (gJ.Qw dn.nil (dn.cons (gJ.n4 (j:=3) rfl) (dn.cons (gJ.n4 (j:=4) rfl) (dn.cons (gJ.n4 (j:=5) rfl) dn.nil)))) uT (ua (oT b) (ua (oP 0) (ua (oI yq) (ua (oI a) ah))))
def ez (wZ a:Int)(b:ae)(A9 c:LI)(zz:LM):Option Unit:=
 some ()
set_option maxRecDepth 100000 in
theorem lM (wZ a:Int)(b:ae)(A9 c:LI)(zz:LM)(r:Unit)(h:ez wZ a b A9 c zz=some r):gj Tryz.prog 79 2 (sk wZ a b A9 c zz) (sl wZ a b A9 c zz r):=by
 unfold ez at h
 refine kj EE 2 ?_
 cases h
 exact iH EE 10 (.fn (.func 118) [] [aP 2,aP 3,aP 4]) [0,1,2,3,4] (gJ.Qw dn.nil (dn.cons (gJ.n4 (j:=2) rfl) (dn.cons (gJ.n4 (j:=3) rfl) (dn.cons (gJ.n4 (j:=4) rfl) dn.nil)))) uT (ua (oP 0) (ua (oI wZ) (ua (oI a) ah)))
def Aa (a:LT)(b:ae):Option LT:=
 qx a b
set_option maxRecDepth 100000 in
theorem FU (c:LT)(b:ae)(r:LT)(h:Aa c b=some r):gj Tryz.prog 36 2 (HA c b) (HB b r):=by
 intro S nx ids a
 match ids,a with
 | [o0,o1],a=>exact JZ _ _ _ h S o0 o1 (fun e=>by have q:=a.2.2.1;rw[e] at q;simp at q) a.2.2.2.1.1 a.2.2.2.2.1.1 (ed a.2.2.2.1.2)
 | [],a=>exact a.2.2.2.elim
 | [_],a=>exact a.2.2.2.2.elim
 | _::_::_::_,a=>exact a.2.2.2.2.2.elim
def aX (c:LT)(a:Int)(b:LT):Option LT:=
 if decide (a<(c.length:Int)) then(dY c a>>=fun e=>bh e>>=fun d=>if decide (b.length+[d].length≤1048576) then(if dH .i64 (a+1) then(aX c (a+1) (b++[d])) else none) else none) else(some b)
 partial_fixpoint
set_option maxRecDepth 100000 in
theorem kS (e:LT):(∀ c b r,aX e c b=some r→SX Tryz.prog (gV 0 (eP r)) (lS e c b)):=by
 refine aX.partial_correctness _ _ ?_
 intro aX a c b r h
 refine yB EE 1 h (fun g h=>?_) (fun g h=>?_)
 · refine yX EE 3 27 29 eB h fun i j h=>?_
   refine yC EE 7 (iF i) h fun d h=>?_
   refine YK 1 2 4 5 b d h fun h=>?_
   refine yI EE 3 h fun k h=>?_
   exact Gc EE qk 2 [[1,8,9,10,5]] [5] [(2,5)] 6 (a (c+1) (b++[d]) r h)
 · cases h
   exact iH EE 6 (.ak 2 0 b.length) [] (gJ.zD (sz:=3) (es:=(b.map aj)) (by decide) (by kernel_rfl) (by first | rfl | (simp;done) | omega | (simp;omega)) (by simp[aq,bF,cC,aO,-List.map_append,-List.map_drop,-List.map_take,-List.map_set,-List.map_replicate])) bg ah
def dB (a:LT):Option LT:=
 if decide (0<(a.length:Int)) then(dY a 0>>=fun c=>bh c>>=fun b=>if decide ([b].length≤1048576) then(aX a 1 [b]) else none) else(some ([]:LT))
set_option maxRecDepth 100000 in
theorem ln (a r:LT)(h:dB a=some r):SX Tryz.prog (gV 0 (eP r)) (gT a):=by
 unfold dB at h
 refine yB EE 1 h (fun c h=>?_) (fun c h=>?_)
 · refine yX EE 3 27 29 eB h fun d e h=>?_
   refine yC EE 7 (iF d) h fun b h=>?_
   refine Yg 1 1 2 b h fun h=>?_
   exact vq EE qk 6 [[1,8,9,10,5]] [2] ((kS a) 1 [b] r h)
 · cases h
   exact iH EE 6 (.ax) [] .ax bg ah
def bJ (a:LT):Option LT:=
 dB a
set_option maxRecDepth 100000 in
theorem eH (a r:LT)(h:bJ a=some r):gj Tryz.prog 50 0 (eO a) (eP r):=by
 unfold bJ at h
 refine kj EE 0 ?_
 refine zL 6 aj a ?_
 exact vq EE qk 2 [[1,8,9,10,5]] [] (ln a r h)
def bw (b:LI)(e:ae)(a:Int):Option Int:=
 if decide (a<(b.length:Int)) then(dY b a>>=fun c=>kx c e>>=fun d=>if d then(some a) else(if dH .i64 (a+1) then(bw b e (a+1)) else none)) else(some (-1))
 partial_fixpoint
set_option maxRecDepth 100000 in
theorem mo (k:LI)(e:ae):(∀ b r,bw k e b=some r→SX Tryz.prog (gV 1 (jy e r)) (nj k e b)):=by
 refine bw.partial_correctness _ _ _ ?_
 intro bw a b r h
 refine yB EE 1 h (fun i h=>?_) (fun i h=>?_)
 · refine yX EE 9 25 3 (HX .i64) h fun j l h=>?_
   obtain⟨c,g,h⟩:=bT h
   refine yG EE 1 (v:=aB c) (tJ j e c g _ 1 [0] iw) ?_
   cases d:c with
   | true=>
     have h:=yg d h
     cases h
     exact iH EE 5 (aI b) [0] (.pure pv) uT ah
   | false=>
     have h:=yh d h
     refine yI EE 2 h fun m h=>?_
     exact vq EE qk 2 [[0,1,7,8]] [0] (a (b+1) r h)
 · cases h
   exact iH EE 5 (aI (-1)) [0] (.pure pv) uT ah
def eI (a:LI)(b:ae):Option Int:=
 bw a b 0
set_option maxRecDepth 100000 in
theorem nq (a:LI)(b:ae)(r:Int)(h:eI a b=some r):gj Tryz.prog 77 1 (fR a b) (jy b r):=by
 unfold eI at h
 refine kj EE 1 ?_
 refine zL 4 (dO .i64) a ?_
 exact vq EE qk 2 [[0,1,7,8]] [0] ((mo a b) 0 r h)
def bx (b:LI)(a:Int):Option Int:=
 if decide (a<(b.length:Int)) then(dY b a>>=fun c=>ky c>>=fun d=>if d then(some a) else(if dH .i64 (a+1) then(bx b (a+1)) else none)) else(some (-1))
 partial_fixpoint
set_option maxRecDepth 100000 in
theorem mq (j:LI):(∀ b r,bx j b=some r→SX Tryz.prog (gV 0 (jz r)) (np j b)):=by
 refine bx.partial_correctness _ _ ?_
 intro bx a b r h
 refine yB EE 1 h (fun g h=>?_) (fun g h=>?_)
 · refine yX EE 9 25 3 (HX .i64) h fun i k h=>?_
   obtain⟨c,e,h⟩:=bT h
   refine Kw EE 1 (v:=aB c) (tK i c e _ 0 [] iw) ?_
   cases d:c with
   | true=>
     have h:=yg d h
     cases h
     exact iH EE 5 (aI b) [] (.pure pv) bg ah
   | false=>
     have h:=yh d h
     refine yI EE 2 h fun l h=>?_
     exact vq EE qk 2 [[0,1,7,8]] [] (a (b+1) r h)
 · cases h
   exact iH EE 5 (aI (-1)) [] (.pure pv) bg ah
def eJ (a:LI):Option Int:=
 bx a 0
set_option maxRecDepth 100000 in
theorem nr (a:LI)(r:Int)(h:eJ a=some r):gj Tryz.prog 77 0 (fS a) (jz r):=by
 unfold eJ at h
 refine kj EE 0 ?_
 refine zL 4 (dO .i64) a ?_
 exact vq EE qk 2 [[0,1,7,8]] [] ((mq a) 0 r h)
mutual
def bB (c:LT)(d e:Int)(g:LI)(h i:Int)(j:ae)(k l:LI)(m n:Int)(o:LM)(p q:Int)(C:LT)(r s:Int)(t:ae)(D:LT)(a:Int)(u:LT)(w b:Int)(x y:LT):Option (Sum TT TT):=
 if decide (b<w) then(dY u b>>=fun z=>if decide ((c++[z]).length≤1048576) then(if dH .i64 (d-1) then(if dH .i64 (e-a) then(bt (c++[z]) (d-1) (e-a) g h i j k l m n o p q x r s t y>>=fun E=>(match E with | (Sum.inl A)=>if dH .i64 (b+1) then(bB c d e g h i j k l m n o p q C r s t D a u w (b+1) A.1 A.2) else none | (Sum.inr B)=>some (Sum.inr (B.1,B.2)))) else none) else none) else none) else(if dH .i64 (a+1) then(bU c d e g h i j k l m n o p q C r s t D (a+1) x y) else none)
 partial_fixpoint
def bU (i:LT)(b c:Int)(j:LI)(k l:Int)(m:ae)(n o:LI)(p q:Int)(d:LM)(e r:Int)(s:LT)(t u:Int)(w:ae)(x:LT)(a:Int)(g h:LT):Option (Sum TT TT):=
 if dH .i64 (c-b) then(if dH .i64 ((c-b)+1) then(if decide (a≤((c-b)+1)) then(if decide ((cD d e).isNone=true∧¬ (a:Int)=e) then(bB i b c j k l m n o p q d e r s t u w x a ((cD d a).getD ([]:LT)) (((cD d a).getD ([]:LT)).length:Int) 0 g h) else none) else(some (Sum.inl (g,h)))) else none) else none
 partial_fixpoint
def bt (i:LT)(j k:Int)(l:LI)(m n:Int)(o:ae)(p q:LI)(r e:Int)(g:LM)(c s:Int)(b:LT)(t h:Int)(u:ae)(a:LT):Option (Sum TT TT):=
 if decide (j=0) then(if decide (k>0) then(some (Sum.inl (b,a))) else(bJ i>>=fun d=>if decide ((a.length:Int)=100) then(some (Sum.inr (b,a))) else(if decide ((cD g c).isNone=true∧(h:Int)=c) then(if decide (b.length+[(Term.mk 3 e d)].length≤1048576) then(if decide ((cD g c).isNone=true∧(h:Int)=c) then(if decide (a.length+[(Term.mk 0 0 ([]:LT))].length≤1048576) then(dY (a++[(Term.mk 0 0 ([]:LT))]) a.length>>=fun w=>dY (a++[(Term.mk 0 0 ([]:LT))]) a.length>>=fun x=>some (Sum.inl ((b++[(Term.mk 3 e d)]),((a++[(Term.mk 0 0 ([]:LT))]).set (a.length:Int).toNat (Term.mk 3 e d))))) else none) else none) else none) else none))) else(bU i j k l m n o p q r e g c s b t h u a 1 b a)
 partial_fixpoint
end
set_option maxRecDepth 100000 in
theorem nt (u:LI)(w A:Int)(B:ae)(C D:LI)(E n:Int)(j:LM)(o F G q:Int)(H:ae):(∀ i k m d e t M N O I J r,bB i k m u w A B C D E n j o F d G q H e t M N O I J=some r→SX Tryz.prog (gV 17 (eU u w A B C D E n j o F G q H r)) (py i k m u w A B C D E n j o F d G q H e t M N O I J))∧(∀ i k m d e p K L r,bU i k m u w A B C D E n j o F d G q H e p K L=some r→SX Tryz.prog (gV 17 (eU u w A B C D E n j o F G q H r)) (j3 i k m u w A B C D E n j o F d G q H e p K L))∧(∀ i k m d e r,bt i k m u w A B C D E n j o F d G q H e=some r→gj Tryz.prog 119 17 (eT i k m u w A B C D E n j o F d G q H e) (eU u w A B C D E n j o F G q H r)):=by
 refine bB.mutual_partial_correctness _ _ _ _ _ _ _ _ _ _ _ _ _ _ _ _ _ ?_ ?_ ?_
 · intro bB bU bt a b bp i k m d e t M N O I J r h
   refine yB EE 1 h (fun Y h=>?_) (fun Y h=>?_)
   · refine yX EE 3 27 29 eB h fun R ex2245 h=>?_
     refine YJ EE 7 (vP i) ?_
     refine YM 2 20 i R h fun h=>?_
     refine yI EE 1 h fun c2254 h=>?_
     refine yI EE 2 h fun c2253 h=>?_
     obtain⟨Z,U,h⟩:=bT h
     rcases Z with W | Q
     · dsimp only at h
       refine yG EE 0 (v:=aB true) (bp (i++[R]) (k-1) (m-t) I J _ U _ 22 [0,1,2,3,4,5,6,7,8,9,10,11,12,13,14,15,16,17,18] iw) ?_
       refine yI EE 4 h fun c2250 h=>?_
       exact Gc EE qk 2 [[10,2,1,0,5,35,4,36,37]] [2,1,0,3,4,5,6,7,8,9,10,11,12,13,14,15,16,22,23] [(17,22),(18,23)] 24 (a i k m d e t M N (O+1) W.1 W.2 r h)
     · dsimp only at h
       refine yG EE 0 (v:=aB false) (bp (i++[R]) (k-1) (m-t) I J _ U _ 22 [0,1,2,3,4,5,6,7,8,9,10,11,12,13,14,15,16,17,18] iw) ?_
       cases h
       exact iH EE 6 (aB false) [0,1,2,3,4,5,6,7,8,9,10,11,12,13,14,15,16,22,23] (.pure pv) (us (us (us (us (us (us (us (us (us (uo (oF j o 22 Q.1.length) (us (uo (oS 23 Q.2.length) uT)))))))))))) (ua (oT Q.1) (ua (oT Q.2) ah))
   · refine yI EE 4 h fun c2255 h=>?_
     exact vq EE qk 2 [[10,2,1,0,5,4]] [2,1,0,3,4,5,6,7,8,9,10,11,12,13,14,15,16,17,18] (b i k m d e (t+1) I J r h)
 · intro bB a i k m d e p K L r h
   refine yI EE 4 h fun c2257 h=>?_
   refine yI EE 0 h fun c2256 h=>?_
   refine yB EE 0 h (fun c2222 h=>?_) (fun c2222 h=>?_)
   · obtain⟨d2223,h⟩:=q8 h
     refine Eu EE 7 (fun S=>um Tryz.prog S 87 (.dm 9) (aI p) false) (aT ((cD j p).getD ([]:LT))) (by kernel_rfl) (by kernel_rfl) (Db (enc:=aj) (l:=j) (c:=o) (x:=p) (V:=.ak 17 0 K.length) (by kernel_rfl) (by kernel_rfl) (of_decide_eq_true d2223)) ?_
     refine zL 0 aj ((cD j p).getD ([]:LT)) ?_
     exact vq EE qk 2 [[10,2,1,0,5,35,4,36,37]] [2,1,0,3,4,5,6,7,8,9,10,11,12,13,14,15,16,17,18] (a i k m d e p ((cD j p).getD ([]:LT)) (((cD j p).getD ([]:LT)).length:Int) 0 K L r h)
   · cases h
     exact iH EE 4 (aB true) [0,1,2,3,4,5,6,7,8,9,10,11,12,13,14,15,16,17,18] (.pure pv) uT (ua (oT K) (ua (oT L) ah))
 · intro bU b i k m d e r h
   refine kj EE 19 ?_ (by rcases r with y | y<;>exact bc)
   refine yB EE 4 h (fun c2183 h=>?_) (fun c2183 h=>?_)
   · refine yB EE 2 h (fun c2184 h=>?_) (fun c2184 h=>?_)
     · cases h
       exact iH EE 8 (aB true) [0,1,2,3,4,5,6,7,8,9,10,11,12,13,14,15,16,17,18] (.pure pv) uT (ua (oT d) (ua (oT e) ah))
     · obtain⟨s,X,h⟩:=bT h
       refine Kw EE 13 (eH i s X _ 19 [] iw) ?_
       refine yB EE 10 h (fun c2187 h=>?_) (fun c2187 h=>?_)
       · cases h
         exact iH EE 13 (aB false) [0,1,2,3,4,5,6,7,8,9,10,11,12,13,14,15,16,17,18] (.pure pv) uT (ua (oT d) (ua (oT e) ah))
       · obtain⟨d2188,h⟩:=q8 h
         refine wW EE 12 (fun S=>um Tryz.prog S 87 (.dm 9) (aI q) false) (fun S=>.val (.ak 17 0 d.length) S) (by kernel_rfl) (by kernel_rfl) (Pn (g:=(kT aj)) (l:=j) (c:=o) (x:=q) (z:=.ax) (by kernel_rfl) (by kernel_rfl) (of_decide_eq_true d2188)) ?_
         refine YK 2 17 20 21 d (Term.mk 3 n s) h fun h=>?_
         obtain⟨T,h⟩:=q8 h
         have T:=of_decide_eq_true T
         refine gO EE 0 (fun S=>DV Tryz.prog S 87 (.dm 9) (aI q) (.ak 21 0 ((d++[(Term.mk 3 n s)]).length))) (fun S=>.skip (S.set 9 (oF j o 21 ((d++[(Term.mk 3 n s)]).length)))) (by kernel_rfl) (by kernel_rfl) (Po (g:=(kT aj)) (l:=j) (c:=o) (x:=q) (z:=.ax) (V:=.ak 17 0 d.length) (by kernel_rfl) (by kernel_rfl) (by kernel_rfl) T) ?_
         refine YL 6 18 22 23 e h fun h=>?_
         refine QB 0 23 h fun x2192 ex2192 h=>?_
         refine QC 0 23 (Term.mk 3 n s) h fun x2193 h=>?_
         cases h
         exact iH EE 12 (aB true) [0,1,2,3,4,5,6,7,8,9,10,11,12,13,14,15,16,21,23] (.pure pv) (us (us (us (us (us (us (us (us (us (uo (oF j o 21 ((d++[(Term.mk 3 n s)]).length)) (us (uo (oS 23 ((e++[(Term.mk 0 0 ([]:LT))]).length)) uT)))))))))))) (ua (oT (d++[(Term.mk 3 n s)])) (ua (oT ((e++[(Term.mk 0 0 ([]:LT))]).set (e.length:Int).toNat (Term.mk 3 n s))) ah))
   · exact vq EE qk 3 [[10,2,1,0,5,4]] [2,1,0,3,4,5,6,7,8,9,10,11,12,13,14,15,16,17,18] (b i k m d e 1 d e r h)
theorem bp (q:LT)(s t:Int)(a:LI)(b c:Int)(d:ae)(e g:LI)(i j:Int)(k:LM)(l m:Int)(u:LT)(n o:Int)(p:ae)(w:LT)(r:(Sum TT TT))(h:bt q s t a b c d e g i j k l m u n o p w=some r):gj Tryz.prog 119 17 (eT q s t a b c d e g i j k l m u n o p w) (eU a b c d e g i j k l m n o p r):=(nt a b c d e g i j k l m n o p).2.2 q s t u w r h
mutual
def cH (i:LT)(b c:Int)(j:LI)(k l:Int)(m:ae)(n o:LI)(p q:Int)(d:LM)(r s e:Int)(t:ae)(a:Int)(g h:LT):Option (Sum Unit (Sum TT TT)):=
 if dH .i64 (c-b) then(if dH .i64 ((c-b)+1) then(if decide (a≤((c-b)+1)) then(if decide ((cD d e).isNone=true∧¬ (a:Int)=e) then(bd i b c j k l m n o p q d r s e t a ((cD d a).getD ([]:LT)) (((cD d a).getD ([]:LT)).length:Int) 0 g h) else none) else(some (Sum.inr (Sum.inl (g,h))))) else none) else none
 partial_fixpoint
def bd (c:LT)(d e:Int)(h:LI)(i j:Int)(k:ae)(l m:LI)(n o:Int)(p:LM)(q r g:Int)(s:ae)(a:Int)(t:LT)(u b:Int)(w x:LT):Option (Sum Unit (Sum TT TT)):=
 if decide (b<u) then(dY t b>>=fun y=>if decide ((c++[y]).length≤1048576) then(if dH .i64 (d-1) then(if dH .i64 (e-a) then(bt (c++[y]) (d-1) (e-a) h i j k l m n o p g q w r g s x>>=fun B=>(match B with | (Sum.inl z)=>if dH .i64 (b+1) then(bd c d e h i j k l m n o p q r g s a t u (b+1) z.1 z.2) else none | (Sum.inr A)=>some (Sum.inr (Sum.inr (A.1,A.2))))) else none) else none) else none) else(if dH .i64 (a+1) then(cH c d e h i j k l m n o p q r g s (a+1) w x) else none)
 partial_fixpoint
end
set_option maxRecDepth 100000 in
theorem nu (o:LT)(D E:Int)(p:LI)(q s:Int)(t:ae)(u w:LI)(y z:Int)(d:LM)(A B g:Int)(C:ae):(∀ e i k r,cH o D E p q s t u w y z d A B g C e i k=some r→SX Tryz.prog (gV 17 (cF p q s t u w y z d A B g C r)) (pE o D E p q s t u w y z d A B g C e i k))∧(∀ j F G H m n r,bd o D E p q s t u w y z d A B g C j F G H m n=some r→SX Tryz.prog (gV 17 (cF p q s t u w y z d A B g C r)) (j8 o D E p q s t u w y z d A B g C j F G H m n)):=by
 refine cH.mutual_partial_correctness _ _ _ _ _ _ _ _ _ _ _ _ _ _ _ _ _ _ ?_ ?_
 · intro bd a e i k r h
   refine yI EE 4 h fun T h=>?_
   refine yI EE 0 h fun U h=>?_
   refine yB EE 0 h (fun M h=>?_) (fun M h=>?_)
   · obtain⟨N,h⟩:=q8 h
     refine Eu EE 7 (fun S=>um Tryz.prog S 87 (.dm 9) (aI e) false) (aT ((cD d e).getD ([]:LT))) (by kernel_rfl) (by kernel_rfl) (Db (enc:=aj) (l:=d) (c:=g) (x:=e) (V:=.ak 20 0 i.length) (by kernel_rfl) (by kernel_rfl) (of_decide_eq_true N)) ?_
     refine zL 0 aj ((cD d e).getD ([]:LT)) ?_
     exact vq EE qk 2 [[10,2,1,0,5,35,4,36,37]] [2,1,0,3,4,5,6,7,8,9,10,11,12,13,14,15,16,20,21] (a e ((cD d e).getD ([]:LT)) (((cD d e).getD ([]:LT)).length:Int) 0 i k r h)
   · cases h
     exact iH EE 4 (aB true) [0,1,2,3,4,5,6,7,8,9,10,11,12,13,14,15,16,20,21] (.pure pv) (us (us (us (us (us (us (us (us (us (uo (oF d g 20 i.length) (us (uo (oS 21 k.length) uT)))))))))))) (ua (oT i) (ua (oT k) ah))
 · intro cH bd b a j F G H m n r h
   refine yB EE 1 h (fun O h=>?_) (fun O h=>?_)
   · refine yX EE 3 27 29 eB h fun J R h=>?_
     refine YJ EE 7 (vP o) ?_
     refine YM 2 23 o J h fun h=>?_
     refine yI EE 1 h fun W h=>?_
     refine yI EE 2 h fun X h=>?_
     obtain⟨Q,K,h⟩:=bT h
     rcases Q with L | I
     · dsimp only at h
       refine yG EE 0 (v:=aB true) (bp (o++[J]) (D-1) (E-j) p q s t u w y z d g A m B g C n _ K _ 25 [0,1,2,3,4,5,6,7,8,9,10,11,12,13,14,15,16,20,21] iw) ?_
       refine yI EE 4 h fun Y h=>?_
       exact Gc EE qk 2 [[10,2,1,0,5,35,4,36,37]] [2,1,0,3,4,5,6,7,8,9,10,11,12,13,14,15,16,25,26] [(20,25),(21,26)] 27 (a j F G (H+1) L.1 L.2 r h)
     · dsimp only at h
       refine yG EE 0 (v:=aB false) (bp (o++[J]) (D-1) (E-j) p q s t u w y z d g A m B g C n _ K _ 25 [0,1,2,3,4,5,6,7,8,9,10,11,12,13,14,15,16,20,21] iw) ?_
       cases h
       exact iH EE 6 (aB false) [0,1,2,3,4,5,6,7,8,9,10,11,12,13,14,15,16,25,26] (.pure pv) (us (us (us (us (us (us (us (us (us (uo (oF d g 25 I.1.length) (us (uo (oS 26 I.2.length) uT)))))))))))) (ua (oT I.1) (ua (oT I.2) ah))
   · refine yI EE 4 h fun Z h=>?_
     exact vq EE qk 2 [[10,2,1,0,5,4]] [2,1,0,3,4,5,6,7,8,9,10,11,12,13,14,15,16,20,21] (b (j+1) m n r h)
mutual
def bC (d:LT)(e g:Int)(h:LI)(i j:Int)(k:ae)(l m:LI)(n o:Int)(c:LM)(p q r:Int)(s:ae)(a b:Int):Option (Sum Unit (Sum TT TT)):=
 if decide (b<(((cD c a).getD ([]:LT)).length:Int)) then(dY ((cD c a).getD ([]:LT)) b>>=fun t=>if decide ((d++[t]).length≤1048576) then(if dH .i64 (e-1) then(if dH .i64 (g-a) then(cx (d++[t]) (e-1) (g-a) h i j k l m n o c p q r s>>=fun x=>(match x with | (Sum.inl y)=>if dH .i64 (b+1) then(bC d e g h i j k l m n o c p q r s a (b+1)) else none | (Sum.inr (Sum.inl u))=>if dH .i64 (b+1) then(bd d e g h i j k l m n o c p q r s a ((cD c a).getD ([]:LT)) (((cD c a).getD ([]:LT)).length:Int) (b+1) u.1 u.2) else none | (Sum.inr (Sum.inr w))=>some (Sum.inr (Sum.inr (w.1,w.2))))) else none) else none) else none) else(if dH .i64 (a+1) then(bV d e g h i j k l m n o c p q r s (a+1)) else none)
 partial_fixpoint
def bV (d:LT)(a b:Int)(e:LI)(g h:Int)(i:ae)(j k:LI)(l m:Int)(n:LM)(o p q:Int)(r:ae)(c:Int):Option (Sum Unit (Sum TT TT)):=
 if dH .i64 (b-a) then(if dH .i64 ((b-a)+1) then(if decide (c≤((b-a)+1)) then(bC d a b e g h i j k l m n o p q r c 0) else(some (Sum.inl ()))) else none) else none
 partial_fixpoint
def cx (e:LT)(g h:Int)(i:LI)(j k:Int)(l:ae)(m n:LI)(o b:Int)(c:LM)(p q d:Int)(r:ae):Option (Sum Unit (Sum TT TT)):=
 if decide (g=0) then(if decide (h>0) then(some (Sum.inl ())) else(bJ e>>=fun a=>if decide ((cD c d).isNone=true) then(if decide ([(Term.mk 3 b a)].length≤1048576) then(if decide ((cD c d).isNone=true) then(if decide ([(Term.mk 0 0 ([]:LT))].length≤1048576) then(dY [(Term.mk 0 0 ([]:LT))] 0>>=fun s=>dY [(Term.mk 0 0 ([]:LT))] 0>>=fun t=>some (Sum.inr (Sum.inl ([(Term.mk 3 b a)],([(Term.mk 0 0 ([]:LT))].set (0:Int).toNat (Term.mk 3 b a)))))) else none) else none) else none) else none)) else(bV e g h i j k l m n o b c p q d r 1)
 partial_fixpoint
end
set_option maxRecDepth 100000 in
theorem nv (o:LI)(p q:Int)(s:ae)(t u:LI)(w k:Int)(e:LM)(A B m:Int)(C:ae):(∀ d i j c D r,bC d i j o p q s t u w k e A B m C c D=some r→SX Tryz.prog (gV 17 (cF o p q s t u w k e A B m C r)) (j6 d i j o p q s t u w k e A B m C c D))∧(∀ d i j c r,bV d i j o p q s t u w k e A B m C c=some r→SX Tryz.prog (gV 17 (cF o p q s t u w k e A B m C r)) (j4 d i j o p q s t u w k e A B m C c))∧(∀ d i j r,cx d i j o p q s t u w k e A B m C=some r→gj Tryz.prog 119 17 (eV d i j o p q s t u w k e A B m C) (cF o p q s t u w k e A B m C r)):=by
 refine bC.mutual_partial_correctness _ _ _ _ _ _ _ _ _ _ _ _ _ _ _ _ ?_ ?_ ?_
 · intro bC bV cx a b cw d i j c D r h
   refine yB EE 1 h (fun K h=>?_) (fun K h=>?_)
   · refine yX EE 3 27 29 eB h fun E R h=>?_
     refine YJ EE 7 (vP d) ?_
     refine YM 2 18 d E h fun h=>?_
     refine yI EE 1 h fun U h=>?_
     refine yI EE 2 h fun V h=>?_
     obtain⟨L,G,h⟩:=bT h
     rcases L with W | I | F
     · dsimp only at h
       refine yG EE 0 (v:=aB true) (cw (d++[E]) (i-1) (j-c) _ G _ 20 [0,1,2,3,4,5,6,7,8,9,10,11,12,13,14,15,16] iw) ?_
       refine yI EE 4 h fun X h=>?_
       exact Gc EE qk 2 [[10,2,1,0,5,35,4,36,37]] [2,1,0,3,4,5,6,7,8,9,10,11,12,13,14,15,16] [] 20 (a d i j c (D+1) r h)
     · dsimp only at h
       refine yG EE 0 (v:=aB true) (cw (d++[E]) (i-1) (j-c) _ G _ 20 [0,1,2,3,4,5,6,7,8,9,10,11,12,13,14,15,16] iw) ?_
       refine yI EE 4 h fun Y h=>?_
       exact vq EE qk 2 [[10,2,1,0,5,35,4,36,37]] [2,1,0,3,4,5,6,7,8,9,10,11,12,13,14,15,16,20,21] ((nu d i j o p q s t u w k e A B m C).2 c ((cD e c).getD ([]:LT)) (((cD e c).getD ([]:LT)).length:Int) (D+1) I.1 I.2 r h)
     · dsimp only at h
       refine yG EE 0 (v:=aB false) (cw (d++[E]) (i-1) (j-c) _ G _ 20 [0,1,2,3,4,5,6,7,8,9,10,11,12,13,14,15,16] iw) ?_
       cases h
       exact iH EE 6 (aB false) [0,1,2,3,4,5,6,7,8,9,10,11,12,13,14,15,16,20,21] (.pure pv) (us (us (us (us (us (us (us (us (us (uo (oF e m 20 F.1.length) (us (uo (oS 21 F.2.length) uT)))))))))))) (ua (oT F.1) (ua (oT F.2) ah))
   · refine yI EE 4 h fun Z h=>?_
     exact vq EE qk 2 [[10,2,1,0,5,4]] [2,1,0,3,4,5,6,7,8,9,10,11,12,13,14,15,16] (b d i j (c+1) r h)
 · intro bC a d i j c r h
   refine yI EE 4 h fun c2409 h=>?_
   refine yI EE 0 h fun c2408 h=>?_
   refine yB EE 0 h (fun M h=>?_) (fun M h=>?_)
   · refine Eu EE 7 (fun S=>um Tryz.prog S 87 (.dm 9) (aI c) false) (aT ((cD e c).getD ([]:LT))) (by kernel_rfl) (by kernel_rfl) (aqp (enc:=aj) (l:=e) (x:=c) (by kernel_rfl) (by kernel_rfl)) ?_
     refine zL 0 aj ((cD e c).getD ([]:LT)) ?_
     exact vq EE qk 2 [[10,2,1,0,5,35,4,36,37]] [2,1,0,3,4,5,6,7,8,9,10,11,12,13,14,15,16] (a d i j c 0 r h)
   · cases h
     exact iH EE 4 (aB true) [0,1,2,3,4,5,6,7,8,9,10,11,12,13,14,15,16] (.pure pv) uT ah
 · intro bV b d i j r h
   refine kj EE 17 ?_ (by rcases r with y | y | y<;>exact bc)
   refine yB EE 4 h (fun N h=>?_) (fun N h=>?_)
   · refine yB EE 2 h (fun O h=>?_) (fun O h=>?_)
     · cases h
       exact iH EE 8 (aB true) [0,1,2,3,4,5,6,7,8,9,10,11,12,13,14,15,16] (.pure pv) uT ah
     · obtain⟨n,J,h⟩:=bT h
       refine Kw EE 13 (eH d n J _ 17 [] iw) ?_
       obtain⟨Q,h⟩:=q8 h
       refine wW EE 23 (fun S=>um Tryz.prog S 87 (.dm 9) (aI m) false) (fun S=>.val (.ax) S) (by kernel_rfl) (by kernel_rfl) (zn (g:=(kT aj)) (l:=e) (x:=m) (by kernel_rfl) (by kernel_rfl) (of_decide_eq_true Q)) ?_
       refine Yg 2 18 19 (Term.mk 3 k n) h fun h=>?_
       obtain⟨H,h⟩:=q8 h
       have H:=of_decide_eq_true H
       refine gO EE 0 (fun S=>DV Tryz.prog S 87 (.dm 9) (aI m) (.ak 19 0 [(Term.mk 3 k n)].length)) (fun S=>.skip (S.set 9 (oF e m 19 [(Term.mk 3 k n)].length))) (by kernel_rfl) (by kernel_rfl) (CU (g:=(kT aj)) (l:=e) (x:=m) (z:=.ax) (by kernel_rfl) (by kernel_rfl) (by kernel_rfl) H) ?_
       refine aqq 6 20 21 h fun h=>?_
       refine QB 0 21 h fun x2266 T h=>?_
       refine QC 0 21 (Term.mk 3 k n) h fun x2267 h=>?_
       cases h
       exact iH EE 12 (aB true) [0,1,2,3,4,5,6,7,8,9,10,11,12,13,14,15,16,19,21] (.pure pv) (us (us (us (us (us (us (us (us (us (uo (oF e m 19 [(Term.mk 3 k n)].length) (us (uo (oS 21 [(Term.mk 0 0 ([]:LT))].length) uT)))))))))))) (ua (oT [(Term.mk 3 k n)]) (ua (oT ([(Term.mk 0 0 ([]:LT))].set (0:Int).toNat (Term.mk 3 k n))) ah))
   · exact vq EE qk 3 [[10,2,1,0,5,4]] [2,1,0,3,4,5,6,7,8,9,10,11,12,13,14,15,16] (b d i j 1 r h)
theorem cw (p:LT)(q s:Int)(a:LI)(b c:Int)(d:ae)(e g:LI)(i j:Int)(k:LM)(l m n:Int)(o:ae)(r:(Sum Unit (Sum TT TT)))(h:cx p q s a b c d e g i j k l m n o=some r):gj Tryz.prog 119 17 (eV p q s a b c d e g i j k l m n o) (cF a b c d e g i j k l m n o r):=(nv a b c d e g i j k l m n o).2.2 p q s r h
mutual
def cI (i:LT)(b c:Int)(j:LI)(k l:Int)(m:ae)(n o:LI)(p q:Int)(d:LM)(r s e:Int)(t:ae)(u:LT)(a:Int)(g h:LT):Option (Sum Unit (Sum Unit (Sum TT TT))):=
 if dH .i64 (c-b) then(if dH .i64 ((c-b)+1) then(if decide (a≤((c-b)+1)) then(if decide ((cD d e).isNone=true∧¬ (a:Int)=e) then(bf i b c j k l m n o p q d r s e t u a ((cD d a).getD ([]:LT)) (((cD d a).getD ([]:LT)).length:Int) 0 g h) else none) else(some (Sum.inr (Sum.inr (Sum.inl (g,h)))))) else none) else none
 partial_fixpoint
def bf (c:LT)(d e:Int)(h:LI)(i j:Int)(k:ae)(l m:LI)(n o:Int)(p:LM)(q r g:Int)(s:ae)(B:LT)(a:Int)(t:LT)(u b:Int)(w x:LT):Option (Sum Unit (Sum Unit (Sum TT TT))):=
 if decide (b<u) then(dY t b>>=fun y=>if decide ((c++[y]).length≤1048576) then(if dH .i64 (d-1) then(if dH .i64 (e-a) then(bt (c++[y]) (d-1) (e-a) h i j k l m n o p g q w r g s x>>=fun C=>(match C with | (Sum.inl z)=>if dH .i64 (b+1) then(bf c d e h i j k l m n o p q r g s B a t u (b+1) z.1 z.2) else none | (Sum.inr A)=>some (Sum.inr (Sum.inr (Sum.inr (A.1,A.2)))))) else none) else none) else none) else(if dH .i64 (a+1) then(cI c d e h i j k l m n o p q r g s B (a+1) w x) else none)
 partial_fixpoint
end
set_option maxRecDepth 100000 in
theorem ny (o:LT)(D E:Int)(p:LI)(q s:Int)(t:ae)(u w:LI)(y z:Int)(d:LM)(A B g:Int)(C:ae)(F:LT):(∀ e i k r,cI o D E p q s t u w y z d A B g C F e i k=some r→SX Tryz.prog (gV 17 (cG p q s t u w y z d A B g C F r)) (pG o D E p q s t u w y z d A B g C F e i k))∧(∀ j G H I m n r,bf o D E p q s t u w y z d A B g C F j G H I m n=some r→SX Tryz.prog (gV 17 (cG p q s t u w y z d A B g C F r)) (j9 o D E p q s t u w y z d A B g C F j G H I m n)):=by
 refine cI.mutual_partial_correctness _ _ _ _ _ _ _ _ _ _ _ _ _ _ _ _ _ _ _ ?_ ?_
 · intro bf a e i k r h
   refine yI EE 4 h fun U h=>?_
   refine yI EE 0 h fun W h=>?_
   refine yB EE 0 h (fun N h=>?_) (fun N h=>?_)
   · obtain⟨O,h⟩:=q8 h
     refine Eu EE 7 (fun S=>um Tryz.prog S 87 (.dm 9) (aI e) false) (aT ((cD d e).getD ([]:LT))) (by kernel_rfl) (by kernel_rfl) (Db (enc:=aj) (l:=d) (c:=g) (x:=e) (V:=.ak 21 0 i.length) (by kernel_rfl) (by kernel_rfl) (of_decide_eq_true O)) ?_
     refine zL 0 aj ((cD d e).getD ([]:LT)) ?_
     exact vq EE qk 2 [[10,2,1,0,5,35,4,36,37]] [2,1,0,3,4,5,6,7,8,9,10,11,12,13,14,15,16,21,22] (a e ((cD d e).getD ([]:LT)) (((cD d e).getD ([]:LT)).length:Int) 0 i k r h)
   · cases h
     exact iH EE 4 (aB true) [0,1,2,3,4,5,6,7,8,9,10,11,12,13,14,15,16,21,22] (.pure pv) (us (us (us (us (us (us (us (us (us (uo (oF d g 21 i.length) (us (uo (oS 22 k.length) uT)))))))))))) (ua (oT i) (ua (oT k) ah))
 · intro cI bf b a j G H I m n r h
   refine yB EE 1 h (fun Q h=>?_) (fun Q h=>?_)
   · refine yX EE 3 27 29 eB h fun K T h=>?_
     refine YJ EE 7 (vP o) ?_
     refine YM 2 24 o K h fun h=>?_
     refine yI EE 1 h fun X h=>?_
     refine yI EE 2 h fun Y h=>?_
     obtain⟨R,L,h⟩:=bT h
     rcases R with M | J
     · dsimp only at h
       refine yG EE 0 (v:=aB true) (bp (o++[K]) (D-1) (E-j) p q s t u w y z d g A m B g C n _ L _ 26 [0,1,2,3,4,5,6,7,8,9,10,11,12,13,14,15,16,21,22] iw) ?_
       refine yI EE 4 h fun Z h=>?_
       exact Gc EE qk 2 [[10,2,1,0,5,35,4,36,37]] [2,1,0,3,4,5,6,7,8,9,10,11,12,13,14,15,16,26,27] [(21,26),(22,27)] 28 (a j G H (I+1) M.1 M.2 r h)
     · dsimp only at h
       refine yG EE 0 (v:=aB false) (bp (o++[K]) (D-1) (E-j) p q s t u w y z d g A m B g C n _ L _ 26 [0,1,2,3,4,5,6,7,8,9,10,11,12,13,14,15,16,21,22] iw) ?_
       cases h
       exact iH EE 6 (aB false) [0,1,2,3,4,5,6,7,8,9,10,11,12,13,14,15,16,26,27] (.pure pv) (us (us (us (us (us (us (us (us (us (uo (oF d g 26 J.1.length) (us (uo (oS 27 J.2.length) uT)))))))))))) (ua (oT J.1) (ua (oT J.2) ah))
   · refine yI EE 4 h fun c2560 h=>?_
     exact vq EE qk 2 [[10,2,1,0,5,4]] [2,1,0,3,4,5,6,7,8,9,10,11,12,13,14,15,16,21,22] (b (j+1) m n r h)
mutual
def bD (d:LT)(e g:Int)(h:LI)(i j:Int)(k:ae)(l m:LI)(n o:Int)(c:LM)(p q r:Int)(s:ae)(t:LT)(a b:Int):Option (Sum Unit (Sum Unit (Sum TT TT))):=
 if decide (b<(((cD c a).getD ([]:LT)).length:Int)) then(dY ((cD c a).getD ([]:LT)) b>>=fun u=>if decide ((d++[u]).length≤1048576) then(if dH .i64 (e-1) then(if dH .i64 (g-a) then(cy (d++[u]) (e-1) (g-a) h i j k l m n o c p q r s t>>=fun y=>(match y with | (Sum.inl z)=>if dH .i64 (b+1) then(bD d e g h i j k l m n o c p q r s t a (b+1)) else none | (Sum.inr (Sum.inl A))=>some (Sum.inr (Sum.inl ())) | (Sum.inr (Sum.inr (Sum.inl w)))=>if dH .i64 (b+1) then(bf d e g h i j k l m n o c p q r s t a ((cD c a).getD ([]:LT)) (((cD c a).getD ([]:LT)).length:Int) (b+1) w.1 w.2) else none | (Sum.inr (Sum.inr (Sum.inr x)))=>some (Sum.inr (Sum.inr (Sum.inr (x.1,x.2)))))) else none) else none) else none) else(if dH .i64 (a+1) then(bW d e g h i j k l m n o c p q r s t (a+1)) else none)
 partial_fixpoint
def bW (d:LT)(a b:Int)(e:LI)(g h:Int)(i:ae)(j k:LI)(l m:Int)(n:LM)(o p q:Int)(r:ae)(s:LT)(c:Int):Option (Sum Unit (Sum Unit (Sum TT TT))):=
 if dH .i64 (b-a) then(if dH .i64 ((b-a)+1) then(if decide (c≤((b-a)+1)) then(bD d a b e g h i j k l m n o p q r s c 0) else(some (Sum.inl ()))) else none) else none
 partial_fixpoint
def cy (g:LT)(h i:Int)(j:LI)(k l:Int)(m:ae)(n o:LI)(p c:Int)(d:LM)(q r e:Int)(s:ae)(a:LT):Option (Sum Unit (Sum Unit (Sum TT TT))):=
 if decide (h=0) then(if decide (i>0) then(some (Sum.inl ())) else(bJ g>>=fun b=>if decide ((a.length:Int)=100) then(some (Sum.inr (Sum.inl ()))) else(if decide ((cD d e).isNone=true) then(if decide ([(Term.mk 3 c b)].length≤1048576) then(if decide ((cD d e).isNone=true) then(if decide (a.length+[(Term.mk 0 0 ([]:LT))].length≤1048576) then(dY (a++[(Term.mk 0 0 ([]:LT))]) a.length>>=fun t=>dY (a++[(Term.mk 0 0 ([]:LT))]) a.length>>=fun u=>some (Sum.inr (Sum.inr (Sum.inl ([(Term.mk 3 c b)],((a++[(Term.mk 0 0 ([]:LT))]).set (a.length:Int).toNat (Term.mk 3 c b))))))) else none) else none) else none) else none))) else(bW g h i j k l m n o p c d q r e s a 1)
 partial_fixpoint
end
set_option maxRecDepth 100000 in
theorem nz (p:LI)(q s:Int)(t:ae)(u w:LI)(A m:Int)(e:LM)(B C n:Int)(D:ae)(k:LT):(∀ d i j c F r,bD d i j p q s t u w A m e B C n D k c F=some r→SX Tryz.prog (gV 17 (cG p q s t u w A m e B C n D k r)) (j7 d i j p q s t u w A m e B C n D k c F))∧(∀ d i j c r,bW d i j p q s t u w A m e B C n D k c=some r→SX Tryz.prog (gV 17 (cG p q s t u w A m e B C n D k r)) (j5 d i j p q s t u w A m e B C n D k c))∧(∀ d i j r,cy d i j p q s t u w A m e B C n D k=some r→gj Tryz.prog 119 17 (eW d i j p q s t u w A m e B C n D k) (cG p q s t u w A m e B C n D k r)):=by
 refine bD.mutual_partial_correctness _ _ _ _ _ _ _ _ _ _ _ _ _ _ _ _ _ ?_ ?_ ?_
 · intro bD bW cy a b bq d i j c F r h
   refine yB EE 1 h (fun L h=>?_) (fun L h=>?_)
   · refine yX EE 3 27 29 eB h fun G U h=>?_
     refine YJ EE 7 (vP d) ?_
     refine YM 2 19 d G h fun h=>?_
     refine yI EE 1 h fun W h=>?_
     refine yI EE 2 h fun X h=>?_
     obtain⟨M,E,h⟩:=bT h
     rcases M with Y | Z | J | H
     · dsimp only at h
       refine yG EE 0 (v:=aB true) (bq (d++[G]) (i-1) (j-c) _ E _ 21 [0,1,2,3,4,5,6,7,8,9,10,11,12,13,14,15,16,17] iw) ?_
       refine yI EE 4 h fun c2513 h=>?_
       exact Gc EE qk 2 [[10,2,1,0,5,35,4,36,37]] [2,1,0,3,4,5,6,7,8,9,10,11,12,13,14,15,16,21] [(17,21)] 22 (a d i j c (F+1) r h)
     · dsimp only at h
       refine yG EE 0 (v:=aB false) (bq (d++[G]) (i-1) (j-c) _ E _ 21 [0,1,2,3,4,5,6,7,8,9,10,11,12,13,14,15,16,17] iw) ?_
       cases h
       exact iH EE 6 (aB false) [0,1,2,3,4,5,6,7,8,9,10,11,12,13,14,15,16,21] (.pure pv) (us (us (us (us (us (us (us (us (us (us (us (uo (oS 21 k.length) uT)))))))))))) (ua (oT k) ah)
     · dsimp only at h
       refine yG EE 0 (v:=aB true) (bq (d++[G]) (i-1) (j-c) _ E _ 21 [0,1,2,3,4,5,6,7,8,9,10,11,12,13,14,15,16,17] iw) ?_
       refine yI EE 4 h fun c2561 h=>?_
       exact vq EE qk 2 [[10,2,1,0,5,35,4,36,37]] [2,1,0,3,4,5,6,7,8,9,10,11,12,13,14,15,16,21,22] ((ny d i j p q s t u w A m e B C n D k).2 c ((cD e c).getD ([]:LT)) (((cD e c).getD ([]:LT)).length:Int) (F+1) J.1 J.2 r h)
     · dsimp only at h
       refine yG EE 0 (v:=aB false) (bq (d++[G]) (i-1) (j-c) _ E _ 21 [0,1,2,3,4,5,6,7,8,9,10,11,12,13,14,15,16,17] iw) ?_
       cases h
       exact iH EE 6 (aB false) [0,1,2,3,4,5,6,7,8,9,10,11,12,13,14,15,16,21,22] (.pure pv) (us (us (us (us (us (us (us (us (us (uo (oF e n 21 H.1.length) (us (uo (oS 22 H.2.length) uT)))))))))))) (ua (oT H.1) (ua (oT H.2) ah))
   · refine yI EE 4 h fun c2566 h=>?_
     exact vq EE qk 2 [[10,2,1,0,5,4]] [2,1,0,3,4,5,6,7,8,9,10,11,12,13,14,15,16,17] (b d i j (c+1) r h)
 · intro bD a d i j c r h
   refine yI EE 4 h fun c2568 h=>?_
   refine yI EE 0 h fun c2567 h=>?_
   refine yB EE 0 h (fun N h=>?_) (fun N h=>?_)
   · refine Eu EE 7 (fun S=>um Tryz.prog S 87 (.dm 9) (aI c) false) (aT ((cD e c).getD ([]:LT))) (by kernel_rfl) (by kernel_rfl) (aqp (enc:=aj) (l:=e) (x:=c) (by kernel_rfl) (by kernel_rfl)) ?_
     refine zL 0 aj ((cD e c).getD ([]:LT)) ?_
     exact vq EE qk 2 [[10,2,1,0,5,35,4,36,37]] [2,1,0,3,4,5,6,7,8,9,10,11,12,13,14,15,16,17] (a d i j c 0 r h)
   · cases h
     exact iH EE 4 (aB true) [0,1,2,3,4,5,6,7,8,9,10,11,12,13,14,15,16,17] (.pure pv) uT (ua (oT k) ah)
 · intro bW b d i j r h
   refine kj EE 18 ?_ (by rcases r with y | y | y | y<;>exact bc)
   refine yB EE 4 h (fun O h=>?_) (fun O h=>?_)
   · refine yB EE 2 h (fun Q h=>?_) (fun Q h=>?_)
     · cases h
       exact iH EE 8 (aB true) [0,1,2,3,4,5,6,7,8,9,10,11,12,13,14,15,16,17] (.pure pv) uT (ua (oT k) ah)
     · obtain⟨o,K,h⟩:=bT h
       refine Kw EE 13 (eH d o K _ 18 [] iw) ?_
       refine yB EE 10 h (fun R h=>?_) (fun R h=>?_)
       · cases h
         exact iH EE 13 (aB false) [0,1,2,3,4,5,6,7,8,9,10,11,12,13,14,15,16,17] (.pure pv) uT (ua (oT k) ah)
       · obtain⟨T,h⟩:=q8 h
         refine wW EE 12 (fun S=>um Tryz.prog S 87 (.dm 9) (aI n) false) (fun S=>.val (.ax) S) (by kernel_rfl) (by kernel_rfl) (zn (g:=(kT aj)) (l:=e) (x:=n) (by kernel_rfl) (by kernel_rfl) (of_decide_eq_true T)) ?_
         refine Yg 2 19 20 (Term.mk 3 m o) h fun h=>?_
         obtain⟨I,h⟩:=q8 h
         have I:=of_decide_eq_true I
         refine gO EE 0 (fun S=>DV Tryz.prog S 87 (.dm 9) (aI n) (.ak 20 0 [(Term.mk 3 m o)].length)) (fun S=>.skip (S.set 9 (oF e n 20 [(Term.mk 3 m o)].length))) (by kernel_rfl) (by kernel_rfl) (CU (g:=(kT aj)) (l:=e) (x:=n) (z:=.ax) (by kernel_rfl) (by kernel_rfl) (by kernel_rfl) I) ?_
         refine YL 6 17 21 22 k h fun h=>?_
         refine QB 0 22 h fun x2419 V h=>?_
         refine QC 0 22 (Term.mk 3 m o) h fun x2420 h=>?_
         cases h
         exact iH EE 12 (aB true) [0,1,2,3,4,5,6,7,8,9,10,11,12,13,14,15,16,20,22] (.pure pv) (us (us (us (us (us (us (us (us (us (uo (oF e n 20 [(Term.mk 3 m o)].length) (us (uo (oS 22 ((k++[(Term.mk 0 0 ([]:LT))]).length)) uT)))))))))))) (ua (oT [(Term.mk 3 m o)]) (ua (oT ((k++[(Term.mk 0 0 ([]:LT))]).set (k.length:Int).toNat (Term.mk 3 m o))) ah))
   · exact vq EE qk 3 [[10,2,1,0,5,4]] [2,1,0,3,4,5,6,7,8,9,10,11,12,13,14,15,16,17] (b d i j 1 r h)
theorem bq (q:LT)(s t:Int)(a:LI)(b c:Int)(d:ae)(e g:LI)(i j:Int)(k:LM)(l m n:Int)(o:ae)(p:LT)(r:(Sum Unit (Sum Unit (Sum TT TT))))(h:cy q s t a b c d e g i j k l m n o p=some r):gj Tryz.prog 119 17 (eW q s t a b c d e g i j k l m n o p) (cG a b c d e g i j k l m n o p r):=(nz a b c d e g i j k l m n o p).2.2 q s t r h
def de (b:LI)(c:ae):Option Bool:=
 eI b c>>=fun a=>if decide (a≥0) then(some true) else(some false)
set_option maxRecDepth 100000 in
theorem mr (c:LI)(a:ae)(r:Bool)(h:de c a=some r):gj Tryz.prog 32 1 (mH c a) (iA a r):=by
 unfold de at h
 refine kj EE 1 ?_
 obtain⟨d,b,h⟩:=bT h
 refine yG EE 5 (nq c a d b _ 1 [0] iw) ?_
 refine yB EE 0 h (fun e h=>?_) (fun e h=>?_)
 · cases h
   exact iH EE 3 (aB true) [0] (.pure pv) uT ah
 · cases h
   exact iH EE 3 (aB false) [0] (.pure pv) uT ah
def dg (b:LI):Option Bool:=
 eJ b>>=fun a=>if decide (a≥0) then(some true) else(some false)
set_option maxRecDepth 100000 in
theorem mu (b:LI)(r:Bool)(h:dg b=some r):gj Tryz.prog 32 0 (mI b) (iB r):=by
 unfold dg at h
 refine kj EE 0 ?_
 obtain⟨c,a,h⟩:=bT h
 refine Kw EE 5 (nr b c a _ 0 [] iw) ?_
 refine yB EE 0 h (fun d h=>?_) (fun d h=>?_)
 · cases h
   exact iH EE 3 (aB true) [] (.pure pv) bg ah
 · cases h
   exact iH EE 3 (aB false) [] (.pure pv) bg ah
def dN (d:LI)(e g h i j k:Int)(l:ae)(m n:LI)(o:Int)(p:LM)(q r s:Int)(t:ae)(u w:LT):Option (Sum TT TT):=
 bt ([]:LT) h i d e g l m n j k p q o u r s t w>>=fun c=>(match c with | (Sum.inl a)=>some (Sum.inl (a.1,a.2)) | (Sum.inr b)=>some (Sum.inr (b.1,b.2)))
set_option maxRecDepth 100000 in
theorem fq (e:LI)(g i j k l m:Int)(n:ae)(o p:LI)(q:Int)(a:LM)(b s t:Int)(u:ae)(w x:LT)(r:(Sum TT TT))(h:dN e g i j k l m n o p q a b s t u w x=some r):gj Tryz.prog 118 17 (qU e g i j k l m n o p q a b s t u w x) (qV e g i j k l m n o p q a b s t u r):=by
 unfold dN at h
 refine kj EE 19 ?_ (by rcases r with y | y<;>exact bc)
 obtain⟨A,z,h⟩:=bT h
 rcases A with c | d
 · dsimp only at h
   refine ND EE 11 (bp ([]:LT) j k e g i n o p l m a b q w s t u x _ z _ 21 [19,1,20,0,8,4,5,6,7,10,9,11,12,13,14,15,16,17,18] iw) ?_
   cases h
   exact iH EE 2 (.bM []) [0,1,2,3,4,5,6,7,8,9,10,11,12,13,14,15,16,21,22] (.pure pv) (us (us (us (us (us (us (us (us (us (us (uo (oF a b 21 c.1.length) (uo (oS 22 c.2.length) uT)))))))))))) (ua (oT c.1) (ua (oT c.2) ah))
 · dsimp only at h
   refine ND EE 11 (bp ([]:LT) j k e g i n o p l m a b q w s t u x _ z _ 21 [19,1,20,0,8,4,5,6,7,10,9,11,12,13,14,15,16,17,18] iw) ?_
   cases h
   exact iH EE 2 (.bM []) [0,1,2,3,4,5,6,7,8,9,10,11,12,13,14,15,16,21,22] (.pure pv) (us (us (us (us (us (us (us (us (us (us (uo (oF a b 21 d.1.length) (uo (oS 22 d.2.length) uT)))))))))))) (ua (oT d.1) (ua (oT d.2) ah))
def gA (d:LI)(e g h i j k:Int)(l:ae)(m n:LI)(o:Int)(p:LM)(q r:Int)(s:ae):Option (Sum Unit (Sum TT TT)):=
 cx ([]:LT) h i d e g l m n j k p o q r s>>=fun c=>(match c with | (Sum.inl t)=>some (Sum.inl ()) | (Sum.inr (Sum.inl a))=>some (Sum.inr (Sum.inl (a.1,a.2))) | (Sum.inr (Sum.inr b))=>some (Sum.inr (Sum.inr (b.1,b.2))))
set_option maxRecDepth 100000 in
theorem il (c:LI)(d e g i j k:Int)(l:ae)(m n:LI)(o:Int)(a:LM)(p b:Int)(q:ae)(r:(Sum Unit (Sum TT TT)))(h:gA c d e g i j k l m n o a p b q=some r):gj Tryz.prog 118 17 (qW c d e g i j k l m n o a p b q) (qX c d e g i j k l m n o a p b q r):=by
 unfold gA at h
 refine kj EE 17 ?_ (by rcases r with y | y | y<;>exact bc)
 obtain⟨w,u,h⟩:=bT h
 rcases w with x | s | t
 · dsimp only at h
   refine ND EE 11 (cw ([]:LT) g i c d e l m n j k a o p b q _ u _ 19 [17,1,18,0,8,4,5,6,7,10,9,11,12,13,14,15,16] iw) ?_
   cases h
   exact iH EE 2 (.bM []) [0,1,2,3,4,5,6,7,8,9,10,11,12,13,14,15,16] (.pure pv) uT ah
 · dsimp only at h
   refine ND EE 11 (cw ([]:LT) g i c d e l m n j k a o p b q _ u _ 19 [17,1,18,0,8,4,5,6,7,10,9,11,12,13,14,15,16] iw) ?_
   cases h
   exact iH EE 2 (.bM []) [0,1,2,3,4,5,6,7,8,9,10,11,12,13,14,15,16,19,20] (.pure pv) (us (us (us (us (us (us (us (us (us (us (uo (oF a b 19 s.1.length) (uo (oS 20 s.2.length) uT)))))))))))) (ua (oT s.1) (ua (oT s.2) ah))
 · dsimp only at h
   refine ND EE 11 (cw ([]:LT) g i c d e l m n j k a o p b q _ u _ 19 [17,1,18,0,8,4,5,6,7,10,9,11,12,13,14,15,16] iw) ?_
   cases h
   exact iH EE 2 (.bM []) [0,1,2,3,4,5,6,7,8,9,10,11,12,13,14,15,16,19,20] (.pure pv) (us (us (us (us (us (us (us (us (us (us (uo (oF a b 19 t.1.length) (uo (oS 20 t.2.length) uT)))))))))))) (ua (oT t.1) (ua (oT t.2) ah))
def gB (d:LI)(e g h i j k:Int)(l:ae)(m n:LI)(o:Int)(p:LM)(q r:Int)(s:ae)(t:LT):Option (Sum Unit (Sum Unit (Sum TT TT))):=
 cy ([]:LT) h i d e g l m n j k p o q r s t>>=fun c=>(match c with | (Sum.inl u)=>some (Sum.inl ()) | (Sum.inr (Sum.inl w))=>some (Sum.inr (Sum.inl ())) | (Sum.inr (Sum.inr (Sum.inl a)))=>some (Sum.inr (Sum.inr (Sum.inl (a.1,a.2)))) | (Sum.inr (Sum.inr (Sum.inr b)))=>some (Sum.inr (Sum.inr (Sum.inr (b.1,b.2)))))
set_option maxRecDepth 100000 in
theorem ft (e:LI)(g i j k l m:Int)(n:ae)(o p:LI)(q:Int)(b:LM)(s c:Int)(t:ae)(a:LT)(r:(Sum Unit (Sum Unit (Sum TT TT))))(h:gB e g i j k l m n o p q b s c t a=some r):gj Tryz.prog 118 17 (qY e g i j k l m n o p q b s c t a) (qZ e g i j k l m n o p q b s c t a r):=by
 unfold gB at h
 refine kj EE 18 ?_ (by rcases r with y | y | y | y<;>exact bc)
 obtain⟨x,d,h⟩:=bT h
 rcases x with z | A | u | w
 · dsimp only at h
   refine ND EE 11 (bq ([]:LT) j k e g i n o p l m b q s c t a _ d _ 20 [18,1,19,0,8,4,5,6,7,10,9,11,12,13,14,15,16,17] iw) ?_
   cases h
   exact iH EE 2 (.bM []) [0,1,2,3,4,5,6,7,8,9,10,11,12,13,14,15,16,20] (.pure pv) (us (us (us (us (us (us (us (us (us (us (us (uo (oS 20 a.length) uT)))))))))))) (ua (oT a) ah)
 · dsimp only at h
   refine ND EE 11 (bq ([]:LT) j k e g i n o p l m b q s c t a _ d _ 20 [18,1,19,0,8,4,5,6,7,10,9,11,12,13,14,15,16,17] iw) ?_
   cases h
   exact iH EE 2 (.bM []) [0,1,2,3,4,5,6,7,8,9,10,11,12,13,14,15,16,20] (.pure pv) (us (us (us (us (us (us (us (us (us (us (us (uo (oS 20 a.length) uT)))))))))))) (ua (oT a) ah)
 · dsimp only at h
   refine ND EE 11 (bq ([]:LT) j k e g i n o p l m b q s c t a _ d _ 20 [18,1,19,0,8,4,5,6,7,10,9,11,12,13,14,15,16,17] iw) ?_
   cases h
   exact iH EE 2 (.bM []) [0,1,2,3,4,5,6,7,8,9,10,11,12,13,14,15,16,20,21] (.pure pv) (us (us (us (us (us (us (us (us (us (us (uo (oF b c 20 u.1.length) (uo (oS 21 u.2.length) uT)))))))))))) (ua (oT u.1) (ua (oT u.2) ah))
 · dsimp only at h
   refine ND EE 11 (bq ([]:LT) j k e g i n o p l m b q s c t a _ d _ 20 [18,1,19,0,8,4,5,6,7,10,9,11,12,13,14,15,16,17] iw) ?_
   cases h
   exact iH EE 2 (.bM []) [0,1,2,3,4,5,6,7,8,9,10,11,12,13,14,15,16,20,21] (.pure pv) (us (us (us (us (us (us (us (us (us (us (uo (oF b c 20 w.1.length) (uo (oS 21 w.2.length) uT)))))))))))) (ua (oT w.1) (ua (oT w.2) ah))
def bR (dr cM dt a124:Int)(k db:ae)(a cr:LI)(d:LM)(b:Int)(e c:LT):Option (Sum TT (Sum TT Unit)):=
 if decide (b<(a.length:Int)) then(dY a b>>=fun g=>dY db.Cons g>>=fun h=>if dH .i64 (cM-1) then(ew h.cU (cM-1) db a cr d a124 c>>=fun m=>dN a (a.length:Int) b h.cU (cM-1) cM g db a cr dr d a124 dt a124 k c e>>=fun l=>(match l with | (Sum.inl i)=>if dH .i64 (b+1) then(bR dr cM dt a124 k db a cr d (b+1) i.2 i.1) else none | (Sum.inr j)=>some (Sum.inl (j.2,j.1)))) else none) else(some (Sum.inr (Sum.inl (e,c))))
 partial_fixpoint
set_option maxRecDepth 100000 in
theorem jQ (dr cM dt a124:Int)(j db:ae)(c cr:LI)(g:LM):(∀ e d b r,bR dr cM dt a124 j db c cr g e d b=some r→∀ bs:List Nat,SX Tryz.prog (gV 11 (aZ dr cM dt a124 j db c cr g r)) (qK bs  r dr cM dt a124 j db c cr g e d b)):=by
 refine bR.partial_correctness _ _ _ _ _ _ _ _ _ _ ?_
 intro bR a e d b r h
 intro m
 refine yB EE 1 h (fun s h=>?_) (fun s h=>?_)
 · refine yX EE 3 25 3 (HX .i64) h fun n x h=>?_
   refine yX EE 12 22 44 bX h fun k y h=>?_
   refine yI EE 3 h fun z h=>?_
   obtain⟨t,q,h⟩:=bT h
   refine yG EE 0 (lL k.cU (cM-1) db c cr g a124 b t q _ 18 [9,10,14] iw) ?_
   obtain⟨u,l,h⟩:=bT h
   rcases u with o | i
   · dsimp only at h
     refine DW EE 2 [1,2,3,7,8,31,32,33,50,51,52,53,54,55,56,57] (fq c (c.length:Int) e k.cU (cM-1) cM n db c cr dr g a124 dt a124 j b d _ l _ 24 [23,19,20,21,11,2,1,17,9,0,10,3,4,5,6,7,8,18,16] iw) ?_
     refine iv EE qk 0 22 (bs:=m) (by kernel_rfl) (by kernel_rfl) (by kernel_rfl) (by kernel_rfl) (fun p=>?_)
     refine yI EE 3 h fun A h=>?_
     exact NF EE qk 2 [[3,2,1,31,32,33]] [11,2,1,0,3,4,5,6,7,8,9,10,25,24] [(16,25),(14,24)] 26 (p::m) (a (e+1) o.2 o.1 r h (p::m))
   · dsimp only at h
     refine DW EE 2 [1,2,3,7,8,31,32,33,50,51,52,53,54,55,56,57] (fq c (c.length:Int) e k.cU (cM-1) cM n db c cr dr g a124 dt a124 j b d _ l _ 24 [23,19,20,21,11,2,1,17,9,0,10,3,4,5,6,7,8,18,16] iw) ?_
     refine iv EE qk 0 22 (bs:=m) (by kernel_rfl) (by kernel_rfl) (by kernel_rfl) (by kernel_rfl) (fun w=>?_)
     cases h
     exact yi EE 2 (w::m) (.bM []) [0,1,2,3,4,5,6,7,8,9,10,25,24] (.pure pv) (us (us (us (uo (oS 25 i.2.length) (us (us (us (us (us (us (uo (oF g a124 24 i.1.length) bg))))))))))) (ua (oT i.2) (ua (oT i.1) ah))
 · cases h
   exact yi EE 2 m (.bM []) [0,1,2,3,4,5,6,7,8,9,10,16,14] (.pure pv) (us (us (us (uo (oS 16 d.length) (us (us (us (us (us (us (uo (oF g a124 14 b.length) bg))))))))))) (ua (oT d) (ua (oT b) ah))
def bS (dr cM dt a124:Int)(g db:ae)(h cr:LI)(d:LM)(b:Int)(a c:LT):Option (Sum TT (Sum TT Unit)):=
 if decide (b<(cr.length:Int)) then(dY cr b>>=fun e=>if decide (cM=1) then(if decide ((a.length:Int)=100) then(some (Sum.inl (a,c))) else(if decide ((cD d a124).isNone=true) then(if decide (c.length+[(Term.mk 2 e ([]:LT))].length≤1048576) then(if decide ((cD d a124).isNone=true) then(if decide (a.length+[(Term.mk 0 0 ([]:LT))].length≤1048576) then(dY (a++[(Term.mk 0 0 ([]:LT))]) a.length>>=fun i=>dY (a++[(Term.mk 0 0 ([]:LT))]) a.length>>=fun j=>if dH .i64 (b+1) then(bS dr cM dt a124 g db h cr d (b+1) ((a++[(Term.mk 0 0 ([]:LT))]).set (a.length:Int).toNat (Term.mk 2 e ([]:LT))) (c++[(Term.mk 2 e ([]:LT))])) else none) else none) else none) else none) else none)) else(if dH .i64 (b+1) then(bS dr cM dt a124 g db h cr d (b+1) a c) else none)) else(bR dr cM dt a124 g db h cr d 0 a c)
 partial_fixpoint
set_option maxRecDepth 100000 in
theorem oD (dr cM dt a124:Int)(m db:ae)(k cr:LI)(i:LM):(∀ j d b r,bS dr cM dt a124 m db k cr i j d b=some r→∀ bs:List Nat,SX Tryz.prog (gV 11 (aZ dr cM dt a124 m db k cr i r)) (kP bs  r dr cM dt a124 m db k cr i j d b)):=by
 refine bS.partial_correctness _ _ _ _ _ _ _ _ _ _ ?_
 intro bS a j d b r h
 intro n
 refine yB EE 1 h (fun p h=>?_) (fun p h=>?_)
 · refine yX EE 3 25 3 (HX .i64) h fun e u h=>?_
   refine yB EE 4 h (fun q h=>?_) (fun q h=>?_)
   · refine NR EE 11 17 (sz:=3) (es:=[.agg [aI 2,aI e,.ax]]) (es' := [.agg [aI 2,aI e,.lit []]]) (by kernel_rfl) (by kernel_rfl) rfl ?_
     refine yB EE 2 h (fun s h=>?_) (fun s h=>?_)
     · cases h
       exact yi EE 8 n (.bM []) [0,1,2,3,4,5,6,7,8,9,10,16,14] (.pure pv) (us (us (us (uo (oS 16 d.length) (us (us (us (us (us (us (uo (oF i a124 14 b.length) bg))))))))))) (ua (oT d) (ua (oT b) ah))
     · obtain⟨t,h⟩:=q8 h
       refine wW EE 12 (fun S=>um Tryz.prog S 87 (.dm 10) (aI a124) false) (fun S=>.val (.ak 14 0 b.length) S) (by kernel_rfl) (by kernel_rfl) (GR (g:=(kT aj)) (l:=i) (c:=a124) (z:=.ax) (by kernel_rfl) (by kernel_rfl) (of_decide_eq_true t)) ?_
       refine YK 2 14 18 19 b (Term.mk 2 e ([]:LT)) h fun h=>?_
       obtain⟨o,h⟩:=q8 h
       have o:=of_decide_eq_true o
       refine gO EE 0 (fun S=>DV Tryz.prog S 87 (.dm 10) (aI a124) (.ak 19 0 ((b++[(Term.mk 2 e ([]:LT))]).length))) (fun S=>.skip (S.set 10 (oF i a124 19 ((b++[(Term.mk 2 e ([]:LT))]).length)))) (by kernel_rfl) (by kernel_rfl) (GS (g:=(kT aj)) (l:=i) (c:=a124) (z:=.ax) (V:=.ak 14 0 b.length) (by kernel_rfl) (by kernel_rfl) (by kernel_rfl) o) ?_
       refine YL 6 16 20 21 d h fun h=>?_
       refine QB 0 21 h fun x w h=>?_
       refine QC 0 21 (Term.mk 2 e ([]:LT)) h fun y h=>?_
       refine yI EE 8 h fun A h=>?_
       exact ab0 EE qk 2 [[3,2,12,1,13,14]] [11,2,1,0,3,4,5,6,7,8,9,10,21,19] [(16,21),(14,19)] 22 n [[(3,aP 11),(2,aP 2),(12,aN cr),(1,aP 1),(13,aI (cr.length:Int)),(14,aI (j+1))]] [(11,oY 0),(2,oI cM),(1,oP 9),(0,oW 3 4 5 6 7 8 dr),(3,oS 21 ((d++[(Term.mk 0 0 ([]:LT))]).length)),(4,oN),(5,oI dt),(6,oP 9),(7,oI a124),(8,oG m),(9,oQ db k cr 10),(10,oF i a124 19 ((b++[(Term.mk 2 e ([]:LT))]).length)),(21,oT ((d++[(Term.mk 0 0 ([]:LT))]).set (d.length:Int).toNat (Term.mk 2 e ([]:LT)))),(19,oT (b++[(Term.mk 2 e ([]:LT))]))] (a (j+1) ((d++[(Term.mk 0 0 ([]:LT))]).set (d.length:Int).toNat (Term.mk 2 e ([]:LT))) (b++[(Term.mk 2 e ([]:LT))]) r h n)
   · refine yI EE 9 h fun B h=>?_
     exact Kq EE qk 2 [[3,2,12,1,13,14]] [11,2,1,0,3,4,5,6,7,8,9,10,16,14] n (a (j+1) d b r h n)
 · refine zL 6 (dO .i64) k ?_
   exact Kq EE qk 2 [[3,2,1,31,32,33]] [11,2,1,0,3,4,5,6,7,8,9,10,16,14] n ((jQ dr cM dt a124 m db k cr i) 0 d b r h n)
def cz (dr cM dt a124:Int)(d db:ae)(b cr:LI)(c:LM)(a:Int):Option (Sum TT (Sum TT Unit)):=
 if decide (a<(b.length:Int)) then(dY b a>>=fun e=>dY db.Cons e>>=fun g=>if dH .i64 (cM-1) then(ez g.cU (cM-1) db b cr c>>=fun k=>gA b (b.length:Int) a g.cU (cM-1) cM e db b cr dr c dt a124 d>>=fun j=>(match j with | (Sum.inl l)=>if dH .i64 (a+1) then(cz dr cM dt a124 d db b cr c (a+1)) else none | (Sum.inr (Sum.inl h))=>if dH .i64 (a+1) then(bR dr cM dt a124 d db b cr c (a+1) h.2 h.1) else none | (Sum.inr (Sum.inr i))=>some (Sum.inl (i.2,i.1)))) else none) else(some (Sum.inr (Sum.inr ())))
 partial_fixpoint
set_option maxRecDepth 100000 in
theorem oH (dr cM dt a124:Int)(e db:ae)(b cr:LI)(d:LM):(∀ c r,cz dr cM dt a124 e db b cr d c=some r→∀ bs:List Nat,SX Tryz.prog (gV 11 (aZ dr cM dt a124 e db b cr d r)) (qM bs  r dr cM dt a124 e db b cr d c)):=by
 refine cz.partial_correctness _ _ _ _ _ _ _ _ _ _ ?_
 intro cz a c r h
 intro g
 refine yB EE 1 h (fun q h=>?_) (fun q h=>?_)
 · refine yX EE 3 25 3 (HX .i64) h fun l w h=>?_
   refine yX EE 12 22 44 bX h fun i x h=>?_
   refine yI EE 3 h fun y h=>?_
   obtain⟨s,p,h⟩:=bT h
   refine yG EE 0 (lM i.cU (cM-1) db b cr d s p _ 13 [9,10] iw) ?_
   obtain⟨t,k,h⟩:=bT h
   rcases t with z | m | j
   · dsimp only at h
     refine DW EE 2 [1,2,3,7,8,31,32,33,50,51,52,53,54,55,56,57] (il b (b.length:Int) c i.cU (cM-1) cM l db b cr dr d dt a124 e _ k _ 18 [17,13,14,15,11,2,1,12,9,0,10,3,4,5,6,7,8] iw) ?_
     refine iv EE qk 0 16 (bs:=g) (by kernel_rfl) (by kernel_rfl) (by kernel_rfl) (by kernel_rfl) (fun n=>?_)
     refine yI EE 3 h fun A h=>?_
     exact NF EE qk 2 [[3,2,1,31,32,33]] [11,2,1,0,3,4,5,6,7,8,9,10] [] 18 (n::g) (a (c+1) r h (n::g))
   · dsimp only at h
     refine DW EE 2 [1,2,3,7,8,31,32,33,50,51,52,53,54,55,56,57] (il b (b.length:Int) c i.cU (cM-1) cM l db b cr dr d dt a124 e _ k _ 18 [17,13,14,15,11,2,1,12,9,0,10,3,4,5,6,7,8] iw) ?_
     refine iv EE qk 0 16 (bs:=g) (by kernel_rfl) (by kernel_rfl) (by kernel_rfl) (by kernel_rfl) (fun o=>?_)
     refine yI EE 3 h fun B h=>?_
     exact NF EE qk 2 [[3,2,1,31,32,33]] [11,2,1,0,3,4,5,6,7,8,9,10,19,18] [(16,19),(14,18)] 20 (o::g) ((jQ dr cM dt a124 e db b cr d) (c+1) m.2 m.1 r h (o::g))
   · dsimp only at h
     refine DW EE 2 [1,2,3,7,8,31,32,33,50,51,52,53,54,55,56,57] (il b (b.length:Int) c i.cU (cM-1) cM l db b cr dr d dt a124 e _ k _ 18 [17,13,14,15,11,2,1,12,9,0,10,3,4,5,6,7,8] iw) ?_
     refine iv EE qk 0 16 (bs:=g) (by kernel_rfl) (by kernel_rfl) (by kernel_rfl) (by kernel_rfl) (fun u=>?_)
     cases h
     exact yi EE 2 (u::g) (.bM []) [0,1,2,3,4,5,6,7,8,9,10,19,18] (.pure pv) (us (us (us (uo (oS 19 j.2.length) (us (us (us (us (us (us (uo (oF d a124 18 j.1.length) bg))))))))))) (ua (oT j.2) (ua (oT j.1) ah))
 · cases h
   exact yi EE 2 g (.bM []) [0,1,2,3,4,5,6,7,8,9,10] (.pure pv) uT ah
def cA (dr cM dt a124:Int)(d db:ae)(e cr:LI)(b:LM)(a:Int):Option (Sum TT (Sum TT Unit)):=
 if decide (a<(cr.length:Int)) then(dY cr a>>=fun c=>if decide (cM=1) then(if decide ((cD b a124).isNone=true) then(if decide ([(Term.mk 2 c ([]:LT))].length≤1048576) then(if decide ((cD b a124).isNone=true) then(if decide ([(Term.mk 0 0 ([]:LT))].length≤1048576) then(dY [(Term.mk 0 0 ([]:LT))] 0>>=fun g=>dY [(Term.mk 0 0 ([]:LT))] 0>>=fun h=>if dH .i64 (a+1) then(bS dr cM dt a124 d db e cr b (a+1) ([(Term.mk 0 0 ([]:LT))].set (0:Int).toNat (Term.mk 2 c ([]:LT))) [(Term.mk 2 c ([]:LT))]) else none) else none) else none) else none) else none) else(if dH .i64 (a+1) then(cA dr cM dt a124 d db e cr b (a+1)) else none)) else(cz dr cM dt a124 d db e cr b 0)
 partial_fixpoint
set_option maxRecDepth 100000 in
theorem oJ (dr cM dt a124:Int)(i db:ae)(e cr:LI)(c:LM):(∀ d r,cA dr cM dt a124 i db e cr c d=some r→∀ bs:List Nat,SX Tryz.prog (gV 11 (aZ dr cM dt a124 i db e cr c r)) (ij bs  r dr cM dt a124 i db e cr c d)):=by
 refine cA.partial_correctness _ _ _ _ _ _ _ _ _ _ ?_
 intro cA a d r h
 intro k
 refine yB EE 1 h (fun m h=>?_) (fun m h=>?_)
 · refine yX EE 3 25 3 (HX .i64) h fun b p h=>?_
   refine yB EE 4 h (fun n h=>?_) (fun n h=>?_)
   · refine NR EE 11 12 (sz:=3) (es:=[.agg [aI 2,aI b,.ax]]) (es' := [.agg [aI 2,aI b,.lit []]]) (by kernel_rfl) (by kernel_rfl) rfl ?_
     obtain⟨o,h⟩:=q8 h
     refine wW EE 15 (fun S=>um Tryz.prog S 87 (.dm 10) (aI a124) false) (fun S=>.val (.ax) S) (by kernel_rfl) (by kernel_rfl) (zn (g:=(kT aj)) (l:=c) (x:=a124) (by kernel_rfl) (by kernel_rfl) (of_decide_eq_true o)) ?_
     refine Yg 2 13 14 (Term.mk 2 b ([]:LT)) h fun h=>?_
     obtain⟨j,h⟩:=q8 h
     have j:=of_decide_eq_true j
     refine gO EE 0 (fun S=>DV Tryz.prog S 87 (.dm 10) (aI a124) (.ak 14 0 [(Term.mk 2 b ([]:LT))].length)) (fun S=>.skip (S.set 10 (oF c a124 14 [(Term.mk 2 b ([]:LT))].length))) (by kernel_rfl) (by kernel_rfl) (CU (g:=(kT aj)) (l:=c) (x:=a124) (z:=.ax) (by kernel_rfl) (by kernel_rfl) (by kernel_rfl) j) ?_
     refine aqq 6 15 16 h fun h=>?_
     refine QB 0 16 h fun s q h=>?_
     refine QC 0 16 (Term.mk 2 b ([]:LT)) h fun t h=>?_
     refine yI EE 8 h fun u h=>?_
     exact ab0 EE qk 2 [[3,2,12,1,13,14]] [11,2,1,0,3,4,5,6,7,8,9,10,16,14] [] 17 k [[(3,aP 11),(2,aP 2),(12,aN cr),(1,aP 1),(13,aI (cr.length:Int)),(14,aI (d+1))]] [(11,oY 0),(2,oI cM),(1,oP 9),(0,oW 3 4 5 6 7 8 dr),(3,oS 16 [(Term.mk 0 0 ([]:LT))].length),(4,oN),(5,oI dt),(6,oP 9),(7,oI a124),(8,oG i),(9,oQ db e cr 10),(10,oF c a124 14 [(Term.mk 2 b ([]:LT))].length),(16,oT ([(Term.mk 0 0 ([]:LT))].set (0:Int).toNat (Term.mk 2 b ([]:LT)))),(14,oT [(Term.mk 2 b ([]:LT))])] ((oD dr cM dt a124 i db e cr c) (d+1) ([(Term.mk 0 0 ([]:LT))].set (0:Int).toNat (Term.mk 2 b ([]:LT))) [(Term.mk 2 b ([]:LT))] r h k)
   · refine yI EE 9 h fun w h=>?_
     exact Kq EE qk 2 [[3,2,12,1,13,14]] [11,2,1,0,3,4,5,6,7,8,9,10] k (a (d+1) r h k)
 · refine zL 6 (dO .i64) e ?_
   exact Kq EE qk 2 [[3,2,1,31,32,33]] [11,2,1,0,3,4,5,6,7,8,9,10] k ((oH dr cM dt a124 i db e cr c) 0 r h k)
def eR (dr cM dt a124:Int)(a db:ae)(b cr:LI)(c:LM):Option (Sum TT (Sum TT Unit)):=
 cA dr cM dt a124 a db b cr c 0
set_option maxRecDepth 100000 in
theorem im (dr cM dt a124:Int)(a db:ae)(b cr:LI)(c:LM)(r:(Sum TT (Sum TT Unit)))(h:eR dr cM dt a124 a db b cr c=some r):gj Tryz.prog 78 11 (iD dr cM dt a124 a db b cr c) (aZ dr cM dt a124 a db b cr c r):=by
 unfold eR at h
 refine kj EE 11 ?_ (by rcases r with y | y | y<;>exact bc)
 refine zW EE 0 ?_
 refine zL 7 (dO .i64) cr ?_
 exact Kq EE qk 2 [[3,2,12,1,13,14]] [11,2,1,0,3,4,5,6,7,8,9,10] [] ((oJ dr cM dt a124 a db b cr c) 0 r h [])
def bH (o c p e:Int)(q g:ae)(a h:LI)(s:LT)(i:LM)(b:Int)(j d:LT):Option (Sum Unit (Sum TT (Sum TT Unit))):=
 if decide (b<(a.length:Int)) then(dY a b>>=fun k=>dY g.Cons k>>=fun l=>if dH .i64 (c-1) then(ew l.cU (c-1) g a h i e d>>=fun t=>dN a (a.length:Int) b l.cU (c-1) c k g a h o i e p e q d j>>=fun r=>(match r with | (Sum.inl m)=>if dH .i64 (b+1) then(bH o c p e q g a h s i (b+1) m.2 m.1) else none | (Sum.inr n)=>some (Sum.inr (Sum.inl (n.2,n.1))))) else none) else(some (Sum.inr (Sum.inr (Sum.inl (j,d)))))
 partial_fixpoint
set_option maxRecDepth 100000 in
theorem jA (n i o c:Int)(p k:ae)(d l:LI)(u:LT)(j:LM):(∀ g e b r,bH n i o c p k d l u j g e b=some r→∀ bs:List Nat,SX Tryz.prog (gV 11 (bk n i o c p k d l u j r)) (pV bs  r n i o c p k d l u j g e b)):=by
 refine bH.partial_correctness _ _ _ _ _ _ _ _ _ _ _ ?_
 intro bH a g e b r h
 intro t
 refine yB EE 1 h (fun A h=>?_) (fun A h=>?_)
 · refine yX EE 3 25 3 (HX .i64) h fun w E h=>?_
   refine yX EE 12 22 44 bX h fun q F h=>?_
   refine yI EE 3 h fun G h=>?_
   obtain⟨B,z,h⟩:=bT h
   refine yG EE 0 (lL q.cU (i-1) k d l j c b B z _ 19 [9,10,15] iw) ?_
   obtain⟨C,s,h⟩:=bT h
   rcases C with x | m
   · dsimp only at h
     refine DW EE 2 [1,2,3,7,8,31,32,33,50,51,52,53,54,55,56,57] (fq d (d.length:Int) g q.cU (i-1) i w k d l n j c o c p b e _ s _ 25 [24,20,21,22,12,2,1,18,9,0,10,3,4,5,6,7,8,19,17] iw) ?_
     refine iv EE qk 0 23 (bs:=t) (by kernel_rfl) (by kernel_rfl) (by kernel_rfl) (by kernel_rfl) (fun y=>?_)
     refine yI EE 3 h fun H h=>?_
     exact NF EE qk 2 [[3,2,1,31,32,33]] [12,2,1,0,3,4,5,6,7,8,9,10,26,25] [(17,26),(15,25)] 27 (y::t) (a (g+1) x.2 x.1 r h (y::t))
   · dsimp only at h
     refine DW EE 2 [1,2,3,7,8,31,32,33,50,51,52,53,54,55,56,57] (fq d (d.length:Int) g q.cU (i-1) i w k d l n j c o c p b e _ s _ 25 [24,20,21,22,12,2,1,18,9,0,10,3,4,5,6,7,8,19,17] iw) ?_
     refine iv EE qk 0 23 (bs:=t) (by kernel_rfl) (by kernel_rfl) (by kernel_rfl) (by kernel_rfl) (fun D=>?_)
     cases h
     exact yi EE 2 (D::t) (.bM []) [0,1,2,3,4,5,6,7,8,9,10,26,25] (.pure pv) (us (us (us (uo (oS 26 m.2.length) (us (us (us (us (us (us (uo (oF j c 25 m.1.length) bg))))))))))) (ua (oT m.2) (ua (oT m.1) ah))
 · cases h
   exact yi EE 2 t (.bM []) [0,1,2,3,4,5,6,7,8,9,10,17,15] (.pure pv) (us (us (us (uo (oS 17 e.length) (us (us (us (us (us (us (uo (oF j c 15 b.length) bg))))))))))) (ua (oT e) (ua (oT b) ah))
def bI (j i k d:Int)(l m:ae)(n e:LI)(o:LT)(g:LM)(b:Int)(a c:LT):Option (Sum Unit (Sum TT (Sum TT Unit))):=
 if decide (b<(e.length:Int)) then(dY e b>>=fun h=>if decide (i=1) then(if decide ((a.length:Int)=100) then(some (Sum.inr (Sum.inl (a,c)))) else(if decide ((cD g d).isNone=true) then(if decide (c.length+[(Term.mk 2 h ([]:LT))].length≤1048576) then(if decide ((cD g d).isNone=true) then(if decide (a.length+[(Term.mk 0 0 ([]:LT))].length≤1048576) then(dY (a++[(Term.mk 0 0 ([]:LT))]) a.length>>=fun p=>dY (a++[(Term.mk 0 0 ([]:LT))]) a.length>>=fun q=>if dH .i64 (b+1) then(bI j i k d l m n e o g (b+1) ((a++[(Term.mk 0 0 ([]:LT))]).set (a.length:Int).toNat (Term.mk 2 h ([]:LT))) (c++[(Term.mk 2 h ([]:LT))])) else none) else none) else none) else none) else none)) else(if dH .i64 (b+1) then(bI j i k d l m n e o g (b+1) a c) else none)) else(bH j i k d l m n e o g 0 a c)
 partial_fixpoint
set_option maxRecDepth 100000 in
theorem nL (o p q i:Int)(s t:ae)(n m:LI)(x:LT)(j:LM):(∀ k d b r,bI o p q i s t n m x j k d b=some r→∀ bs:List Nat,SX Tryz.prog (gV 11 (bk o p q i s t n m x j r)) (kz bs  r o p q i s t n m x j k d b)):=by
 refine bI.partial_correctness _ _ _ _ _ _ _ _ _ _ _ ?_
 intro bI a k d b r h
 intro u
 refine yB EE 1 h (fun y h=>?_) (fun y h=>?_)
 · refine yX EE 3 25 3 (HX .i64) h fun e D h=>?_
   refine yB EE 4 h (fun A h=>?_) (fun A h=>?_)
   · refine NR EE 11 18 (sz:=3) (es:=[.agg [aI 2,aI e,.ax]]) (es' := [.agg [aI 2,aI e,.lit []]]) (by kernel_rfl) (by kernel_rfl) rfl ?_
     refine yB EE 2 h (fun B h=>?_) (fun B h=>?_)
     · cases h
       exact yi EE 8 u (.bM []) [0,1,2,3,4,5,6,7,8,9,10,17,15] (.pure pv) (us (us (us (uo (oS 17 d.length) (us (us (us (us (us (us (uo (oF j i 15 b.length) bg))))))))))) (ua (oT d) (ua (oT b) ah))
     · obtain⟨C,h⟩:=q8 h
       refine wW EE 12 (fun S=>um Tryz.prog S 87 (.dm 10) (aI i) false) (fun S=>.val (.ak 15 0 b.length) S) (by kernel_rfl) (by kernel_rfl) (GR (g:=(kT aj)) (l:=j) (c:=i) (z:=.ax) (by kernel_rfl) (by kernel_rfl) (of_decide_eq_true C)) ?_
       refine YK 2 15 19 20 b (Term.mk 2 e ([]:LT)) h fun h=>?_
       obtain⟨w,h⟩:=q8 h
       have w:=of_decide_eq_true w
       refine gO EE 0 (fun S=>DV Tryz.prog S 87 (.dm 10) (aI i) (.ak 20 0 ((b++[(Term.mk 2 e ([]:LT))]).length))) (fun S=>.skip (S.set 10 (oF j i 20 ((b++[(Term.mk 2 e ([]:LT))]).length)))) (by kernel_rfl) (by kernel_rfl) (GS (g:=(kT aj)) (l:=j) (c:=i) (z:=.ax) (V:=.ak 15 0 b.length) (by kernel_rfl) (by kernel_rfl) (by kernel_rfl) w) ?_
       refine YL 6 17 21 22 d h fun h=>?_
       refine QB 0 22 h fun F E h=>?_
       refine QC 0 22 (Term.mk 2 e ([]:LT)) h fun G h=>?_
       refine yI EE 8 h fun H h=>?_
       exact ab0 EE qk 2 [[3,2,12,1,13,14]] [12,2,1,0,3,4,5,6,7,8,9,10,22,20] [(17,22),(15,20)] 23 u [[(3,aP 12),(2,aP 2),(12,aN m),(1,aP 1),(13,aI (m.length:Int)),(14,aI (k+1))]] [(12,oY 0),(2,oI p),(1,oP 9),(0,oW 3 4 5 6 7 8 o),(3,oS 22 ((d++[(Term.mk 0 0 ([]:LT))]).length)),(4,oN),(5,oI q),(6,oP 9),(7,oI i),(8,oG s),(9,oQ t n m 10),(10,oF j i 20 ((b++[(Term.mk 2 e ([]:LT))]).length)),(22,oT ((d++[(Term.mk 0 0 ([]:LT))]).set (d.length:Int).toNat (Term.mk 2 e ([]:LT)))),(20,oT (b++[(Term.mk 2 e ([]:LT))]))] (a (k+1) ((d++[(Term.mk 0 0 ([]:LT))]).set (d.length:Int).toNat (Term.mk 2 e ([]:LT))) (b++[(Term.mk 2 e ([]:LT))]) r h u)
   · refine yI EE 9 h fun I h=>?_
     exact Kq EE qk 2 [[3,2,12,1,13,14]] [12,2,1,0,3,4,5,6,7,8,9,10,17,15] u (a (k+1) d b r h u)
 · refine zL 6 (dO .i64) n ?_
   exact Kq EE qk 2 [[3,2,1,31,32,33]] [12,2,1,0,3,4,5,6,7,8,9,10,17,15] u ((jA o p q i s t n m x j) 0 d b r h u)
def cg (h c i j:Int)(k d:ae)(b e:LI)(l:LT)(g:LM)(a:Int):Option (Sum Unit (Sum TT (Sum TT Unit))):=
 if decide (a<(b.length:Int)) then(dY b a>>=fun m=>dY d.Cons m>>=fun n=>if dH .i64 (c-1) then(ez n.cU (c-1) d b e g>>=fun r=>gB b (b.length:Int) a n.cU (c-1) c m d b e h g i j k l>>=fun q=>(match q with | (Sum.inl s)=>if dH .i64 (a+1) then(cg h c i j k d b e l g (a+1)) else none | (Sum.inr (Sum.inl t))=>some (Sum.inl ()) | (Sum.inr (Sum.inr (Sum.inl o)))=>if dH .i64 (a+1) then(bH h c i j k d b e l g (a+1) o.2 o.1) else none | (Sum.inr (Sum.inr (Sum.inr p)))=>some (Sum.inr (Sum.inl (p.2,p.1))))) else none) else(some (Sum.inr (Sum.inr (Sum.inr ()))))
 partial_fixpoint
set_option maxRecDepth 100000 in
theorem nM (l c m i:Int)(n j:ae)(b k:LI)(e:LT)(g:LM):(∀ d r,cg l c m i n j b k e g d=some r→∀ bs:List Nat,SX Tryz.prog (gV 11 (bk l c m i n j b k e g r)) (pX bs  r l c m i n j b k e g d)):=by
 refine cg.partial_correctness _ _ _ _ _ _ _ _ _ _ _ ?_
 intro cg a d r h
 intro p
 refine yB EE 1 h (fun z h=>?_) (fun z h=>?_)
 · refine yX EE 3 25 3 (HX .i64) h fun s E h=>?_
   refine yX EE 12 22 44 bX h fun q F h=>?_
   refine yI EE 3 h fun G h=>?_
   obtain⟨A,y,h⟩:=bT h
   refine yG EE 0 (lM q.cU (c-1) j b k g A y _ 14 [9,10] iw) ?_
   obtain⟨B,o,h⟩:=bT h
   rcases B with H | I | u | t
   · dsimp only at h
     refine DW EE 2 [1,2,3,7,8,31,32,33,50,51,52,53,54,55,56,57] (ft b (b.length:Int) d q.cU (c-1) c s j b k l g m i n e _ o _ 19 [18,14,15,16,12,2,1,13,9,0,10,3,4,5,6,7,8,11] iw) ?_
     refine iv EE qk 0 17 (bs:=p) (by kernel_rfl) (by kernel_rfl) (by kernel_rfl) (by kernel_rfl) (fun w=>?_)
     refine yI EE 3 h fun J h=>?_
     exact NF EE qk 2 [[3,2,1,31,32,33]] [12,2,1,0,3,4,5,6,7,8,9,10,19] [(11,19)] 20 (w::p) (a (d+1) r h (w::p))
   · dsimp only at h
     refine DW EE 2 [1,2,3,7,8,31,32,33,50,51,52,53,54,55,56,57] (ft b (b.length:Int) d q.cU (c-1) c s j b k l g m i n e _ o _ 19 [18,14,15,16,12,2,1,13,9,0,10,3,4,5,6,7,8,11] iw) ?_
     refine iv EE qk 0 17 (bs:=p) (by kernel_rfl) (by kernel_rfl) (by kernel_rfl) (by kernel_rfl) (fun C=>?_)
     cases h
     exact yi EE 2 (C::p) (.bM []) [0,1,2,3,4,5,6,7,8,9,10,19] (.pure pv) (us (us (us (uo (oS 19 e.length) uT)))) (ua (oT e) ah)
   · dsimp only at h
     refine DW EE 2 [1,2,3,7,8,31,32,33,50,51,52,53,54,55,56,57] (ft b (b.length:Int) d q.cU (c-1) c s j b k l g m i n e _ o _ 19 [18,14,15,16,12,2,1,13,9,0,10,3,4,5,6,7,8,11] iw) ?_
     refine iv EE qk 0 17 (bs:=p) (by kernel_rfl) (by kernel_rfl) (by kernel_rfl) (by kernel_rfl) (fun x=>?_)
     refine yI EE 3 h fun K h=>?_
     exact NF EE qk 2 [[3,2,1,31,32,33]] [12,2,1,0,3,4,5,6,7,8,9,10,20,19] [(17,20),(15,19)] 21 (x::p) ((jA l c m i n j b k e g) (d+1) u.2 u.1 r h (x::p))
   · dsimp only at h
     refine DW EE 2 [1,2,3,7,8,31,32,33,50,51,52,53,54,55,56,57] (ft b (b.length:Int) d q.cU (c-1) c s j b k l g m i n e _ o _ 19 [18,14,15,16,12,2,1,13,9,0,10,3,4,5,6,7,8,11] iw) ?_
     refine iv EE qk 0 17 (bs:=p) (by kernel_rfl) (by kernel_rfl) (by kernel_rfl) (by kernel_rfl) (fun D=>?_)
     cases h
     exact yi EE 2 (D::p) (.bM []) [0,1,2,3,4,5,6,7,8,9,10,20,19] (.pure pv) (us (us (us (uo (oS 20 t.2.length) (us (us (us (us (us (us (uo (oF g i 19 t.1.length) bg))))))))))) (ua (oT t.2) (ua (oT t.1) ah))
 · cases h
   exact yi EE 2 p (.bM []) [0,1,2,3,4,5,6,7,8,9,10,11] (.pure pv) uT (ua (oT e) ah)
def cj (i h j c:Int)(k l:ae)(m d:LI)(a:LT)(e:LM)(b:Int):Option (Sum Unit (Sum TT (Sum TT Unit))):=
 if decide (b<(d.length:Int)) then(dY d b>>=fun g=>if decide (h=1) then(if decide ((a.length:Int)=100) then(some (Sum.inl ())) else(if decide ((cD e c).isNone=true) then(if decide ([(Term.mk 2 g ([]:LT))].length≤1048576) then(if decide ((cD e c).isNone=true) then(if decide (a.length+[(Term.mk 0 0 ([]:LT))].length≤1048576) then(dY (a++[(Term.mk 0 0 ([]:LT))]) a.length>>=fun n=>dY (a++[(Term.mk 0 0 ([]:LT))]) a.length>>=fun o=>if dH .i64 (b+1) then(bI i h j c k l m d a e (b+1) ((a++[(Term.mk 0 0 ([]:LT))]).set (a.length:Int).toNat (Term.mk 2 g ([]:LT))) [(Term.mk 2 g ([]:LT))]) else none) else none) else none) else none) else none)) else(if dH .i64 (b+1) then(cj i h j c k l m d a e (b+1)) else none)) else(cg i h j c k l m d a e 0)
 partial_fixpoint
set_option maxRecDepth 100000 in
theorem nN (m n o c:Int)(p q:ae)(k j:LI)(d:LT)(e:LM):(∀ i r,cj m n o c p q k j d e i=some r→∀ bs:List Nat,SX Tryz.prog (gV 11 (bk m n o c p q k j d e r)) (gM bs  r m n o c p q k j d e i)):=by
 refine cj.partial_correctness _ _ _ _ _ _ _ _ _ _ _ ?_
 intro cj a i r h
 intro s
 refine yB EE 1 h (fun u h=>?_) (fun u h=>?_)
 · refine yX EE 3 25 3 (HX .i64) h fun b B h=>?_
   refine yB EE 4 h (fun w h=>?_) (fun w h=>?_)
   · refine NR EE 11 13 (sz:=3) (es:=[.agg [aI 2,aI b,.ax]]) (es' := [.agg [aI 2,aI b,.lit []]]) (by kernel_rfl) (by kernel_rfl) rfl ?_
     refine yB EE 2 h (fun y h=>?_) (fun y h=>?_)
     · cases h
       exact yi EE 8 s (.bM []) [0,1,2,3,4,5,6,7,8,9,10,11] (.pure pv) uT (ua (oT d) ah)
     · obtain⟨A,h⟩:=q8 h
       refine wW EE 12 (fun S=>um Tryz.prog S 87 (.dm 10) (aI c) false) (fun S=>.val (.ax) S) (by kernel_rfl) (by kernel_rfl) (zn (g:=(kT aj)) (l:=e) (x:=c) (by kernel_rfl) (by kernel_rfl) (of_decide_eq_true A)) ?_
       refine Yg 2 14 15 (Term.mk 2 b ([]:LT)) h fun h=>?_
       obtain⟨t,h⟩:=q8 h
       have t:=of_decide_eq_true t
       refine gO EE 0 (fun S=>DV Tryz.prog S 87 (.dm 10) (aI c) (.ak 15 0 [(Term.mk 2 b ([]:LT))].length)) (fun S=>.skip (S.set 10 (oF e c 15 [(Term.mk 2 b ([]:LT))].length))) (by kernel_rfl) (by kernel_rfl) (CU (g:=(kT aj)) (l:=e) (x:=c) (z:=.ax) (by kernel_rfl) (by kernel_rfl) (by kernel_rfl) t) ?_
       refine YL 6 11 16 17 d h fun h=>?_
       refine QB 0 17 h fun D C h=>?_
       refine QC 0 17 (Term.mk 2 b ([]:LT)) h fun E h=>?_
       refine yI EE 8 h fun F h=>?_
       exact ab0 EE qk 2 [[3,2,12,1,13,14]] [12,2,1,0,3,4,5,6,7,8,9,10,17,15] [] 18 s [[(3,aP 12),(2,aP 2),(12,aN j),(1,aP 1),(13,aI (j.length:Int)),(14,aI (i+1))]] [(12,oY 0),(2,oI n),(1,oP 9),(0,oW 3 4 5 6 7 8 m),(3,oS 17 ((d++[(Term.mk 0 0 ([]:LT))]).length)),(4,oN),(5,oI o),(6,oP 9),(7,oI c),(8,oG p),(9,oQ q k j 10),(10,oF e c 15 [(Term.mk 2 b ([]:LT))].length),(17,oT ((d++[(Term.mk 0 0 ([]:LT))]).set (d.length:Int).toNat (Term.mk 2 b ([]:LT)))),(15,oT [(Term.mk 2 b ([]:LT))])] ((nL m n o c p q k j d e) (i+1) ((d++[(Term.mk 0 0 ([]:LT))]).set (d.length:Int).toNat (Term.mk 2 b ([]:LT))) [(Term.mk 2 b ([]:LT))] r h s)
   · refine yI EE 9 h fun G h=>?_
     exact Kq EE qk 2 [[3,2,12,1,13,14]] [12,2,1,0,3,4,5,6,7,8,9,10,11] s (a (i+1) r h s)
 · refine zL 6 (dO .i64) k ?_
   exact Kq EE qk 2 [[3,2,1,31,32,33]] [12,2,1,0,3,4,5,6,7,8,9,10,11] s ((nM m n o c p q k j d e) 0 r h s)
def eE (a b c d:Int)(e g:ae)(h i:LI)(j:LT)(k:LM):Option (Sum Unit (Sum TT (Sum TT Unit))):=
 cj a b c d e g h i j k 0
set_option maxRecDepth 100000 in
theorem eX (b c d e:Int)(g i:ae)(j a:LI)(k:LT)(l:LM)(r:(Sum Unit (Sum TT (Sum TT Unit))))(h:eE b c d e g i j a k l=some r):gj Tryz.prog 78 11 (ig b c d e g i j a k l) (bk b c d e g i j a k l r):=by
 unfold eE at h
 refine kj EE 12 ?_ (by rcases r with y | y | y | y<;>exact bc)
 refine zW EE 0 ?_
 refine zL 7 (dO .i64) a ?_
 exact Kq EE qk 2 [[3,2,12,1,13,14]] [12,2,1,0,3,4,5,6,7,8,9,10,11] [] ((nN b c d e g i j a k l) 0 r h [])
def dK (a0:ae)(h a2:LI)(a3 a:Int)(b:LT)(c:LM):Option (LT×Int):=
 if decide (a≤a3) then(ev a a0 h a2 c>>=fun i=>eE a3 a 0 a a0 a0 h a2 b c>>=fun g=>(match g with | (Sum.inl j)=>some (([]:LT),3) | (Sum.inr (Sum.inl k))=>some (([]:LT),3) | (Sum.inr (Sum.inr (Sum.inl d)))=>if dH .i64 (a+1) then(dK a0 h a2 a3 (a+1) d.1 (c++[(a,d.2)])) else none | (Sum.inr (Sum.inr (Sum.inr l)))=>if dH .i64 (a+1) then(dK a0 h a2 a3 (a+1) b c) else none)) else(Aa b a0>>=fun e=>if decide (e.length=b.length) then(some (e,0)) else none)
 partial_fixpoint
set_option maxRecDepth 100000 in
theorem tc (a0:ae)(u a2:LI)(a3:Int):(∀ a e d r,dK a0 u a2 a3 a e d=some r→∀ bs:List Nat,SX Tryz.prog (gV 0 (fo r)) (vj bs  r a0 u a2 a3 a e d)):=by
 refine dK.partial_correctness _ _ _ _ _ ?_
 intro dK b a e d r h
 intro j
 refine yB EE 3 h (fun w h=>?_) (fun w h=>?_)
 · obtain⟨x,s,h⟩:=bT h
   refine yG EE 4 (lK a a0 u a2 d x s _ 15 [4,3] iw) ?_
   obtain⟨z,i,h⟩:=bT h
   rcases z with C | D | m | E
   · dsimp only at h
     refine DW EE 1 [3,4,8,9,10,10,11,11,11,12,13,13,13,61,62,63,64,65,66,67,68,69,70,71,72,73,74,75,76,77,78,79,79,80,81,82,83,83,84] (eX a3 a 0 a a0 a0 u a2 e d _ i _ 19 [18,15,16,6,1,2,5,14,0,4,3,12] iw) ?_
     refine iv EE qk 0 17 (bs:=j) (by kernel_rfl) (by kernel_rfl) (by kernel_rfl) (by kernel_rfl) (fun A=>?_)
     cases h
     exact yi EE 2 (A::j) (.bM [.ax,aI 3]) [] (gJ.uH (dn.cons .ax (dn.cons (.pure pv) dn.nil))) bg ah
   · dsimp only at h
     refine DW EE 1 [3,4,8,9,10,10,11,11,11,12,13,13,13,61,62,63,64,65,66,67,68,69,70,71,72,73,74,75,76,77,78,79,79,80,81,82,83,83,84] (eX a3 a 0 a a0 a0 u a2 e d _ i _ 19 [18,15,16,6,1,2,5,14,0,4,3,12] iw) ?_
     refine iv EE qk 0 17 (bs:=j) (by kernel_rfl) (by kernel_rfl) (by kernel_rfl) (by kernel_rfl) (fun B=>?_)
     cases h
     exact yi EE 2 (B::j) (.bM [.ax,aI 3]) [] (gJ.uH (dn.cons .ax (dn.cons (.pure pv) dn.nil))) bg ah
   · dsimp only at h
     refine DW EE 1 [3,4,8,9,10,10,11,11,11,12,13,13,13,61,62,63,64,65,66,67,68,69,70,71,72,73,74,75,76,77,78,79,79,80,81,82,83,83,84] (eX a3 a 0 a a0 a0 u a2 e d _ i _ 19 [18,15,16,6,1,2,5,14,0,4,3,12] iw) ?_
     refine iv EE qk 0 17 (bs:=j) (by kernel_rfl) (by kernel_rfl) (by kernel_rfl) (by kernel_rfl) (fun n=>?_)
     refine yI EE 10 h fun F h=>?_
     refine Qi EE 2 20 3 (sz:=3) (len:=m.2.length) (es:=(m.2.map aj)) (k:=.i64) (g:=(kT aj)) (l:=d) (c:=a) (y:=m.2) (by kernel_rfl) (by kernel_rfl) rfl (by kernel_rfl) (by kernel_rfl) (by first | rfl | (simp;done) | omega | (simp;omega)) (by kernel_rfl) ?_
     exact NF EE qk 0 [[11,8,9,10,12,4,3]] [6,1,2,5,21,0,19,4,3] [(14,21),(12,19)] 22 (n::j) (b (a+1) m.1 (d++[(a,m.2)]) r h (n::j))
   · dsimp only at h
     refine DW EE 1 [3,4,8,9,10,10,11,11,11,12,13,13,13,61,62,63,64,65,66,67,68,69,70,71,72,73,74,75,76,77,78,79,79,80,81,82,83,83,84] (eX a3 a 0 a a0 a0 u a2 e d _ i _ 19 [18,15,16,6,1,2,5,14,0,4,3,12] iw) ?_
     refine iv EE qk 0 17 (bs:=j) (by kernel_rfl) (by kernel_rfl) (by kernel_rfl) (by kernel_rfl) (fun o=>?_)
     refine yI EE 10 h fun G h=>?_
     exact NF EE qk 2 [[11,8,9,10,12,4,3]] [6,1,2,5,20,0,19,4,3] [(14,20),(12,19)] 21 (o::j) (b (a+1) e d r h (o::j))
 · obtain⟨p,t,h⟩:=bT h
   obtain⟨q,h⟩:=q8 h
   have q:=of_decide_eq_true q
   refine yG EE 3 (FU e a0 p t _ 15 [12,0] iw) ?_
   cases h
   exact yi EE 5 j (.bM [.ak 12 0 e.length,aI 0]) [] (gJ.uH (dn.cons (gJ.zD (sz:=3) (es:=(p.map aj)) (by decide) (by kernel_rfl) (by first | rfl | (simp;done) | omega | (simp;omega)) (by simp[aq,bF,cC,aO,-List.map_append,-List.map_drop,-List.map_take,-List.map_set,-List.map_replicate])) (dn.cons (.pure pv) dn.nil))) bg ah
def dL (a0:ae)(e a2:LI)(a3 a:Int)(b:LM):Option (LT×Int):=
 if decide (a≤a3) then(ev a a0 e a2 b>>=fun g=>eR a3 a 0 a a0 a0 e a2 b>>=fun d=>(match d with | (Sum.inl h)=>some (([]:LT),3) | (Sum.inr (Sum.inl c))=>if dH .i64 (a+1) then(dK a0 e a2 a3 (a+1) c.1 (b++[(a,c.2)])) else none | (Sum.inr (Sum.inr i))=>if dH .i64 (a+1) then(dL a0 e a2 a3 (a+1) b) else none)) else(Dc a0>>=fun j=>some (([]:LT),0))
 partial_fixpoint
set_option maxRecDepth 100000 in
theorem te (a0:ae)(q a2:LI)(a3:Int)(d:LM):(∀ a r,dL a0 q a2 a3 a d=some r→∀ bs:List Nat,SX Tryz.prog (gV 0 (fo r)) (qF bs  r a0 q a2 a3 a d)):=by
 refine dL.partial_correctness _ _ _ _ _ _ ?_
 intro dL b a r h
 intro i
 refine yB EE 3 h (fun s h=>?_) (fun s h=>?_)
 · obtain⟨t,o,h⟩:=bT h
   refine yG EE 4 (lK a a0 q a2 d t o _ 8 [4,3] iw) ?_
   obtain⟨u,j,h⟩:=bT h
   rcases u with z | e | A
   · dsimp only at h
     refine DW EE 1 [3,4,8,9,10,10,11,11,11,12,13,13,13,61,62,63,64,65,66,67,68,69,70,71,72,73,74,75,76,77,78,79,79,80,81,82,83,83,84] (im a3 a 0 a a0 a0 q a2 d _ j _ 12 [11,8,9,6,1,2,5,7,0,4,3] iw) ?_
     refine iv EE qk 0 10 (bs:=i) (by kernel_rfl) (by kernel_rfl) (by kernel_rfl) (by kernel_rfl) (fun w=>?_)
     cases h
     exact yi EE 2 (w::i) (.bM [.ax,aI 3]) [] (gJ.uH (dn.cons .ax (dn.cons (.pure pv) dn.nil))) bg ah
   · dsimp only at h
     refine DW EE 1 [3,4,8,9,10,10,11,11,11,12,13,13,13,61,62,63,64,65,66,67,68,69,70,71,72,73,74,75,76,77,78,79,79,80,81,82,83,83,84] (im a3 a 0 a a0 a0 q a2 d _ j _ 12 [11,8,9,6,1,2,5,7,0,4,3] iw) ?_
     refine iv EE qk 0 10 (bs:=i) (by kernel_rfl) (by kernel_rfl) (by kernel_rfl) (by kernel_rfl) (fun m=>?_)
     refine yI EE 10 h fun B h=>?_
     refine Qi EE 2 13 3 (sz:=3) (len:=e.2.length) (es:=(e.2.map aj)) (k:=.i64) (g:=(kT aj)) (l:=d) (c:=a) (y:=e.2) (by kernel_rfl) (by kernel_rfl) rfl (by kernel_rfl) (by kernel_rfl) (by first | rfl | (simp;done) | omega | (simp;omega)) (by kernel_rfl) ?_
     exact Kq EE qk 0 [[11,8,9,10,12,4,3]] [6,1,2,5,14,0,12,4,3] (m::i) ((tc a0 q a2 a3) (a+1) e.1 (d++[(a,e.2)]) r h (m::i))
   · dsimp only at h
     refine DW EE 1 [3,4,8,9,10,10,11,11,11,12,13,13,13,61,62,63,64,65,66,67,68,69,70,71,72,73,74,75,76,77,78,79,79,80,81,82,83,83,84] (im a3 a 0 a a0 a0 q a2 d _ j _ 12 [11,8,9,6,1,2,5,7,0,4,3] iw) ?_
     refine iv EE qk 0 10 (bs:=i) (by kernel_rfl) (by kernel_rfl) (by kernel_rfl) (by kernel_rfl) (fun n=>?_)
     refine yI EE 10 h fun C h=>?_
     exact NF EE qk 2 [[11,8,9,10,12,4,3]] [6,1,2,5,12,0,4,3] [(7,12)] 13 (n::i) (b (a+1) r h (n::i))
 · obtain⟨x,p,h⟩:=bT h
   refine yG EE 3 (HC a0 x p _ 8 [0] iw) ?_
   cases h
   exact yi EE 5 i (.bM [.ax,aI 0]) [] (gJ.uH (dn.cons .ax (dn.cons (.pure pv) dn.nil))) bg ah
def iG (a0:ae)(g a2:LI)(a3:Int):Option (LT×Int):=
 fb a0>>=fun a=>if(!decide (a=0)) then(some (([]:LT),2)) else(kX g>>=fun b=>if b then(kX a2>>=fun c=>if c then(if decide ((a2.length:Int)>8) then(some (([]:LT),2)) else(if decide (a3<0) then(some (([]:LT),2)) else(if decide (a3>6) then(some (([]:LT),2)) else(de g a0>>=fun d=>if d then(some (([]:LT),2)) else(dg a2>>=fun e=>if e then(some (([]:LT),2)) else(dL a0 g a2 a3 1 [])))))) else(some (([]:LT),2))) else(some (([]:LT),2)))
set_option maxRecDepth 100000 in
theorem vk (a0:ae)(m a2:LI)(a3:Int)(r:(LT×Int))(h:iG a0 m a2 a3=some r):gj Tryz.prog 7 0 (nc a0 m a2 a3) (fo r):=by
 unfold iG at h
 refine kj EE 0 ?_
 refine zW EE 0 ?_
 refine yC EE 6 (sf a0) h fun n h=>?_
 refine yB EE 0 h (fun i h=>?_) (fun i h=>?_)
 · cases h
   exact yi EE 27 [] (.bM [.ax,aI 2]) [] (gJ.uH (dn.cons .ax (dn.cons (.pure pv) dn.nil))) bg ah
 · refine mK EE 2 (sZ m) h (fun h=>?_) (fun h=>?_)
   · refine mK EE 4 (sZ a2) h (fun h=>?_) (fun h=>?_)
     · refine zL 4 (dO .i64) a2 ?_
       refine yB EE 0 h (fun j h=>?_) (fun j h=>?_)
       · cases h
         exact yi EE 13 [] (.bM [.ax,aI 2]) [] (gJ.uH (dn.cons .ax (dn.cons (.pure pv) dn.nil))) bg ah
       · refine yB EE 3 h (fun k h=>?_) (fun k h=>?_)
         · cases h
           exact yi EE 9 [] (.bM [.ax,aI 2]) [] (gJ.uH (dn.cons .ax (dn.cons (.pure pv) dn.nil))) bg ah
         · refine yB EE 3 h (fun l h=>?_) (fun l h=>?_)
           · cases h
             exact yi EE 5 [] (.bM [.ax,aI 2]) [] (gJ.uH (dn.cons .ax (dn.cons (.pure pv) dn.nil))) bg ah
           · obtain⟨a,e,h⟩:=bT h
             refine yG EE 4 (v:=aB a) (mr m a0 a e _ 3 [0] iw) ?_
             cases c:a with
             | true=>
               have h:=yg c h
               cases h
               exact yi EE 8 [] (.bM [.ax,aI 2]) [] (gJ.uH (dn.cons .ax (dn.cons (.pure pv) dn.nil))) bg ah
             | false=>
               have h:=yh c h
               obtain⟨b,g,h⟩:=bT h
               refine Kw EE 2 (v:=aB b) (mu a2 b g _ 3 [] iw) ?_
               cases d:b with
               | true=>
                 have h:=yg d h
                 cases h
                 exact yi EE 5 [] (.bM [.ax,aI 2]) [] (gJ.uH (dn.cons .ax (dn.cons (.pure pv) dn.nil))) bg ah
               | false=>
                 have h:=yh d h
                 exact Kq EE qk 16 [[11,8,9,10,12,4,3]] [6,1,2,5,7,0,4,3] [] ((te a0 m a2 a3 []) 1 r h [])
     · cases h
       exact yi EE 19 [] (.bM [.ax,aI 2]) [] (gJ.uH (dn.cons .ax (dn.cons (.pure pv) dn.nil))) bg ah
   · cases h
     exact yi EE 24 [] (.bM [.ax,aI 2]) [] (gJ.uH (dn.cons .ax (dn.cons (.pure pv) dn.nil))) bg ah
def fY (a0:ae)(a a2:LI)(a3:Int):Option (LT×Int):=iG a0 a a2 a3
theorem y5 (a0:ae)(a a2:LI)(a3:Int)(r:(LT×Int))(h:fY a0 a a2 a3=some r):∀ S,cL Tryz.prog 7 [aG a0,aN a,aN a2,aI a3] S fun b c=>b=.ret (.bM [aT r.1,aI r.2])∧c=S:=
 cL.frame (by simp[aq,bF,cC,aO]) (by simp[aq,bF,cC,aO]) ((vk a0 a a2 a3 r h af.empty 0 [] iw).mono fun _ _ q=>q.1)
end
end Go.Eng

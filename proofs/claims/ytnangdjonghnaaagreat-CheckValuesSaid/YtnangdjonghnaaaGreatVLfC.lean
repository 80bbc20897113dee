/- Functions of the program lifted to data, each with its contract; no conditions. -/
import Derived.Test.YtnangdjonghnaaaGreatVLfA
import Derived.Test.YtnangdjonghnaaaGreatVLcS
import Derived.KernelRfl
set_option linter.unusedVariables false
set_option linter.unusedSimpArgs false
namespace Go.Eng
open Go.Proofs
set_option synthInstance.maxSize 100000
set_option synthInstance.maxHeartbeats 400000
noncomputable section
def jO (a0:ae)(a a2:Term):Option Int:=qI a0 a a2>>=fun v0=>some v0.1
set_option maxRecDepth 100000 in
theorem GA (a0:ae)(a a2:Term)(r:Int)(h:jO a0 a a2=some r):∀ S,dc Tryz.prog 30 [aK a,aK a2,.eV [aM a0.Cons,aM a0.gR]] S fun b c=>b=.ret (aI r)∧c=S:=by
 unfold jO at h
 refine yF EE ?_
 refine yC EE 8 (zG a0 a a2) h fun v0 h=>?_
 cases h
 exact yR EE 10
variable {P : Program} {f : FuncId} {args : List AV} {S : af} {v : AV}
theorem dc.adf {A B:af}(b:B.nx=A.nx)(c:B.lim=A.lim)(a:∀ id,B.get id=A.get id)(h:dc P f args S fun r j=>r=.ret v∧j=A):dc P f args S fun r j=>r=.ret v∧j=B:=by
 intro g w xs hx hi
 refine(h g w xs hx hi).mono ?_
 rintro e w' ⟨r,j,g', ⟨rfl,rfl⟩,m,i,d⟩
 exact ⟨_,_,g', ⟨rfl,rfl⟩,m,⟨i.ro,fun id o e=>i.ob id o (by rw[←a];exact e),fun id k o o' l l' e n=>i.inj id k o o' l l' (by rw[←a];exact e) (by rw[←a];exact n),fun id aQ=>i.fresh id (by rw[←b];exact aQ)⟩,
  ⟨d.size,d.os,d.tape,d.output,d.gQ,fun id o l e=>d.own id o l (by rw[←a];exact e),d.ng,by rw[b];exact d.nx,c.trans d.lim,fun id h=>(a id).trans (d.sM id h),d.rM,d.wC,fun id h e=>(a id).trans (d.dead id h e),d.fz⟩⟩
theorem af.AK {id:Nat}{o:ak}(a:S.get id=some o)(k:Nat):(S.set id o).get k=S.get k:=by
 by_cases h:k=id
 · subst h;rw[af.bD (af.dY a),a]
 · exact af.au (af.dY a) h
theorem dc.coarse {a:List AV}{Q:ic→af→Prop}(b:∀ g xs,fG g args xs→fG g a xs)(h:dc P f a S Q):dc P f args S Q:=
 fun g w xs hx hi=>h g w xs (b g xs hx) hi
theorem y4 {o:Nat}(c:∀ g x,VR g v x→VR g (.lit []) x)(g:Gh)(xs:Array Value)(h:fG g [v,.fn (.func 30) [] [aP o]] xs):fG g [.lit [],.fn (.func 30) [] [.top]] xs:=by
 refine⟨h.1,fun k a x e b=>?_⟩
 match k with
 | 0=>simp only[List.getElem?_cons_zero,ar] at e;subst e;exact c g x (h.2 0 _ x rfl b)
 | 1=>
   simp only[List.getElem?_cons_succ,List.getElem?_cons_zero,ar] at e;subst e
   have:=h.2 1 _ x rfl b
   cases this with
   | fn hx d h1 h2=>
     refine .fn hx d h1 fun k a x e b=>?_
     cases k with
     | zero=>simp only[List.getElem?_cons_zero,ar] at e;subst e;exact .top
     | succ k=>simp at e
 | k+2=>simp at e
theorem FU : ∀ S,dc Tryz.prog 29 [.lit [],.fn (.func 30) [] [.top]] S fun r a=>r=.ret (.bm [])∧a=S:=
 xl T0.ok mixed (n:=400) (d:=20) (k:=40) (by kernel_rfl) (by kernel_rfl) (by kernel_rfl)
open Classical in
noncomputable def ry (l:LT)(s:ae):Option LT:=
 if h:0<l.length then
  haveI:Inhabited (_root_.Fin l.length):=⟨⟨0,h⟩⟩
  if(∀ a∈l,∀ b∈l,(jO s a b).isSome)∧Sort.SWO (ltOf fun i j:_root_.Fin l.length=>(jO s l[i] l[j]).getD 0)∧l.length<4611686018427387904 then some (Ac (fun a b=>(jO s a b).getD 0) l) else none
 else some []
theorem Kp (S:af)(o0:Nat)(ob:ak)(a:S.get o0=some ob):dc Tryz.prog 29 [.an,.fn (.func 30) [] [aP o0]] S fun r b=>r=.ret (.bm [])∧b=S.set o0 ob:=
 dc.adf (A:=S) rfl rfl (af.AK a) (dc.coarse (y4 fun g x h=>by cases h;exact .gG) (FU S))
theorem Kq (l r:LT)(s:ae)(h:ry l s=some r)(S:af)(o0 o1:Nat)(o:o1≠o0)(e:S.get o0=some (oT l))(p:S.get o1=some (oG s))(B:S.lim≤o0) :
   dc Tryz.prog 29 [.aj o0 0 l.length,.fn (.func 30) [] [aP o1]] S fun t u=>t=.ret (.bm [])∧u=(S.set o1 (oG s)).set o0 (oT r):=by
 have C:ai=fun x=>.agg (Fx x):=funext tD
 have d:=af.dY e
 have z:∀ A k,((S.set o1 (oG s)).set o0 A).get k=(S.set o0 A).get k:=by
   intro A k
   by_cases j:k=o0
   · subst j;rw[af.bD d,af.bD d]
   · rw[af.au d j,af.au d j,af.AK p]
 unfold ry at h
 split at h
 · rename_i m
   split at h<;>simp only[ar,reduceCtorEq] at h
   rename_i n
   letI:Inhabited (_root_.Fin l.length):=⟨⟨0,m⟩⟩
   refine dc.adf (A:=S.set o0 (oT r)) rfl rfl (z _) ?_
   subst h
   unfold oT at e ⊢
   rw[C] at e ⊢
   refine H6 Tryz.XS (k:=3) (encC:=Fx) (fun _=>rfl) (by decide) (fun x=>by simp[Fx,br,aq,bH]) (fun x v i=>by simp[Fx] at i;rcases i with rfl | rfl | rfl<;>rfl) ?_ ?_ l m n.2.2 _ n.2.1 ?_ (cs:=[aM s.Cons,aM s.gR]) (by simp[br,aq,bH]) (fun x y hx D=>?_) o e p B
   · exact fun w=>ot (by kernel_rfl)
   · exact fun w=>run_sizeOf (by kernel_rfl)
   · exact enters_of Tryz.func30 (by kernel_rfl) rfl
   · obtain⟨v,i⟩:=Option.isSome_iff_exists.1 (n.1 x hx y D)
     refine(GA s x y v i af.empty).mono fun t u q=>?_
     rw[q.1,i];rfl
 · rename_i m
   have:l=[]:=List.eq_nil_of_length_eq_zero (by omega)
   subst this
   cases h
   refine dc.adf (A:=S) rfl rfl (fun k=>(z _ k).trans (af.AK e k)) (dc.coarse (y4 fun g x h=>?_) (FU S))
   cases h with
   | aj a b c=>exact .gG
   | ga a b=>exact .gG
@[simp] noncomputable def nL := fun a0 a a2 a3 (o:NM)=>(([aG a0,aN a,aN a2,aI a3],[]):TC)
@[simp] noncomputable def fN := fun(r:(LT×Int)) (o:NM)=>((.bm [aT r.1,aI r.2],[],[]):TB)
@[simp] noncomputable def nc := fun a b (o:NM)=>(([aN a,.fn (.func 26) [] [aP (o 0)]],[oG b]):TC)
@[simp] noncomputable def iZ := fun a (r:Bool) (o:NM)=>((aB r,[some (oG a)],[]):TB)
@[simp] noncomputable def gr := fun a b (o:NM)=>(([aN a,.fn (.func 26) [] [aP (o 0)]],[oG b]):TC)
@[simp] noncomputable def jX := fun a (r:Int) (o:NM)=>((aI r,[some (oG a)],[]):TB)
@[simp] noncomputable def vc := fun a17 pV (o:NM)=>(([aI a17,aP (o 0)],[oG pV]):TC)
@[simp] noncomputable def vd := fun pV (r:Bool) (o:NM)=>((aB r,[some (oG pV)],[]):TB)
@[simp] noncomputable def nf := fun a (o:NM)=>(([aN a,.fn (.func 27) [] []],[]):TC)
@[simp] noncomputable def i6 := fun(r:Bool) (o:NM)=>((aB r,[],[]):TB)
@[simp] noncomputable def gu := fun a (o:NM)=>(([aN a,.fn (.func 27) [] []],[]):TC)
@[simp] noncomputable def jY := fun(r:Int) (o:NM)=>((aI r,[],[]):TB)
@[simp] noncomputable def ve := fun a59 (o:NM)=>(([aI a59],[]):TC)
@[simp] noncomputable def vf := fun(r:Bool) (o:NM)=>((aB r,[],[]):TB)
@[simp] noncomputable def tf := fun b KX c NO a (o:NM)=>(([aP (o 0),aI b],[oQ KX c NO (o 1),oE a]):TC)
@[simp] noncomputable def nb := fun b KX c NO a (r:Unit) (o:NM)=>((.fn (.func 73) [] [aP (o 2),aP (o 3)],sm [oQ KX c NO (o 1),oE a],[oP (o 0),oI b]):TB)
@[simp] noncomputable def Kr := fun xM (o:NM)=>(([.an,.fn (.func 30) [] [aP (o 0)]],[oG xM]):TC)
@[simp] noncomputable def Ks := fun xM (r:Unit) (o:NM)=>((.bm [],[some (oG xM)],[]):TB)
@[simp] noncomputable def jb := fun dM da dN a124 a dB b cG c (o:NM)=>(([.pq (o 0),aP (o 1),aP (o 2)],[oW (o 3) (o 4) (o 5) (o 6) (o 7) (o 8) dM,oP (o 9),oI da,oN,oN,oI dN,oP (o 9),oI a124,oG a,oQ dB b cG (o 10),oE c]):TC)
@[simp] noncomputable def bn := fun dM da dN a124 a dB b cG c (r:(Sum TT (Sum TT Unit))) (o:NM)=>(match r with | (Sum.inl y)=>(.bm [],sm [oX (o 3) (o 4) (o 5) (o 6) (o 7) (o 8) dM,oP (o 9),oI da,oS (o 11) y.1.length,oN,oI 3,oP (o 9),oI a124,oG a,oQ dB b cG (o 10),oF c a124 (o 12) y.2.length],[oT y.1,oT y.2]) | (Sum.inr (Sum.inl y))=>(.bm [],sm [oW (o 3) (o 4) (o 5) (o 6) (o 7) (o 8) dM,oP (o 9),oI da,oS (o 11) y.1.length,oN,oI dN,oP (o 9),oI a124,oG a,oQ dB b cG (o 10),oF c a124 (o 12) y.2.length],[oT y.1,oT y.2]) | (Sum.inr (Sum.inr y))=>(.bm [],sm [oW (o 3) (o 4) (o 5) (o 6) (o 7) (o 8) dM,oP (o 9),oI da,oN,oN,oI dN,oP (o 9),oI a124,oG a,oQ dB b cG (o 10),oE c],[]):TB)
@[simp] noncomputable def tg := fun zi b Aj c BJ d Ak a (o:NM)=>(([aP (o 0),aI zi,aI b],[oQ Aj c BJ (o 1),oF d Ak (o 2) a.length,oT a]):TC)
@[simp] noncomputable def th := fun zi b Aj c BJ d Ak a (r:Unit) (o:NM)=>((.fn (.func 116) [] [aP (o 3),aP (o 4),aP (o 5)],sm [oQ Aj c BJ (o 1),oF d Ak (o 2) a.length],[oT a,oP (o 0),oI zi,oI b]):TB)
@[simp] noncomputable def ti := fun xN a b BK c Al (o:NM)=>(([aP (o 0),aI xN,aI a],[oQ b BK c (o 1),oE Al]):TC)
@[simp] noncomputable def tj := fun xN a b BK c Al (r:Unit) (o:NM)=>((.fn (.func 116) [] [aP (o 2),aP (o 3),aP (o 4)],sm [oQ b BK c (o 1),oE Al],[oP (o 0),oI xN,oI a]):TB)
@[simp] noncomputable def iM := fun b c d e g h i j a k (o:NM)=>(([.pq (o 0),aP (o 1),aP (o 2)],[oW (o 3) (o 4) (o 5) (o 6) (o 7) (o 8) b,oP (o 9),oI c,oS (o 11) a.length,oN,oI d,oP (o 9),oI e,oG g,oQ h i j (o 10),oE k,oT a]):TC)
@[simp] noncomputable def bx := fun b c k a d e g h i j (r:(Sum Unit (Sum TT (Sum TT Unit)))) (o:NM)=>(match r with | (Sum.inl y)=>(.bm [],sm [oX (o 3) (o 4) (o 5) (o 6) (o 7) (o 8) b,oP (o 9),oI c,oS (o 11) i.length,oN,oI 3,oP (o 9),oI a,oG d,oQ e g h (o 10),oE j],[oT i]) | (Sum.inr (Sum.inl y))=>(.bm [],sm [oX (o 3) (o 4) (o 5) (o 6) (o 7) (o 8) b,oP (o 9),oI c,oS (o 11) y.1.length,oN,oI 3,oP (o 9),oI a,oG d,oQ e g h (o 10),oF j a (o 12) y.2.length],[oT y.1,oT y.2]) | (Sum.inr (Sum.inr (Sum.inl y)))=>(.bm [],sm [oW (o 3) (o 4) (o 5) (o 6) (o 7) (o 8) b,oP (o 9),oI c,oS (o 11) y.1.length,oN,oI k,oP (o 9),oI a,oG d,oQ e g h (o 10),oF j a (o 12) y.2.length],[oT y.1,oT y.2]) | (Sum.inr (Sum.inr (Sum.inr y)))=>(.bm [],sm [oW (o 3) (o 4) (o 5) (o 6) (o 7) (o 8) b,oP (o 9),oI c,oS (o 11) i.length,oN,oI k,oP (o 9),oI a,oG d,oQ e g h (o 10),oE j],[oT i]):TB)
@[simp] noncomputable def H9 := fun a b (o:NM)=>(([.aj (o 0) 0 a.length,.fn (.func 30) [] [aP (o 1)]],[oT a,oG b]):TC)
@[simp] noncomputable def Ia := fun a (r:LT) (o:NM)=>((.bm [],sm [oT r,oG a],[]):TB)
@[simp] noncomputable def rU := fun c d e g h i j k l m n p q r s t a b (o:NM)=>(([.pq (o 0),aP (o 1),aP (o 2),aP (o 3)],[oV (o 4) (o 5) (o 6) c d e (o 7),oP (o 8),oI g,oI h,oY (o 9),oI i,oP (o 8),oI j,oQ k l m (o 10),oW (o 11) (o 12) (o 13) (o 14) (o 15) (o 16) n,oF p q (o 17) a.length,oS (o 18) b.length,oN,oI r,oP (o 8),oI s,oG t,oT a,oT b]):TC)
@[simp] noncomputable def rV := fun a b c d e g h i j k l m n s p q (r:(Sum TT TT)) (o:NM)=>(match r with | (Sum.inl y)=>(.bm [],sm [oV (o 4) (o 5) (o 6) a b c (o 7),oP (o 8),oI d,oI e,oY (o 9),oI g,oP (o 8),oI h,oQ i j k (o 10),oW (o 11) (o 12) (o 13) (o 14) (o 15) (o 16) l,oF m n (o 17) y.1.length,oS (o 18) y.2.length,oN,oI s,oP (o 8),oI p,oG q],[oT y.1,oT y.2]) | (Sum.inr y)=>(.bm [],sm [oU (o 4) (o 5) (o 6) a b c (o 7),oP (o 8),oI d,oI e,oY (o 9),oI g,oP (o 8),oI h,oQ i j k (o 10),oX (o 11) (o 12) (o 13) (o 14) (o 15) (o 16) l,oF m n (o 17) y.1.length,oS (o 18) y.2.length,oN,oI 3,oP (o 8),oI p,oG q],[oT y.1,oT y.2]):TB)
@[simp] noncomputable def rW := fun a b c d e g h i j k l m n p q (o:NM)=>(([.pq (o 0),aP (o 1),aP (o 2),aP (o 3)],[oV (o 4) (o 5) (o 6) a b c (o 7),oP (o 8),oI d,oI e,oY (o 9),oI g,oP (o 8),oI h,oQ i j k (o 10),oW (o 11) (o 12) (o 13) (o 14) (o 15) (o 16) l,oE m,oN,oN,oI n,oP (o 8),oI p,oG q]):TC)
@[simp] noncomputable def rX := fun b c d e g h i j k l m n q a p (r:(Sum Unit (Sum TT TT))) (o:NM)=>(match r with | (Sum.inl y)=>(.bm [],sm [oV (o 4) (o 5) (o 6) b c d (o 7),oP (o 8),oI e,oI g,oY (o 9),oI h,oP (o 8),oI i,oQ j k l (o 10),oW (o 11) (o 12) (o 13) (o 14) (o 15) (o 16) m,oE n,oN,oN,oI q,oP (o 8),oI a,oG p],[]) | (Sum.inr (Sum.inl y))=>(.bm [],sm [oV (o 4) (o 5) (o 6) b c d (o 7),oP (o 8),oI e,oI g,oY (o 9),oI h,oP (o 8),oI i,oQ j k l (o 10),oW (o 11) (o 12) (o 13) (o 14) (o 15) (o 16) m,oF n a (o 17) y.1.length,oS (o 18) y.2.length,oN,oI q,oP (o 8),oI a,oG p],[oT y.1,oT y.2]) | (Sum.inr (Sum.inr y))=>(.bm [],sm [oU (o 4) (o 5) (o 6) b c d (o 7),oP (o 8),oI e,oI g,oY (o 9),oI h,oP (o 8),oI i,oQ j k l (o 10),oX (o 11) (o 12) (o 13) (o 14) (o 15) (o 16) m,oF n a (o 17) y.1.length,oS (o 18) y.2.length,oN,oI 3,oP (o 8),oI a,oG p],[oT y.1,oT y.2]):TB)
@[simp] noncomputable def rY := fun b c d e g h i j k l m n p q r a (o:NM)=>(([.pq (o 0),aP (o 1),aP (o 2),aP (o 3)],[oV (o 4) (o 5) (o 6) b c d (o 7),oP (o 8),oI e,oI g,oY (o 9),oI h,oP (o 8),oI i,oQ j k l (o 10),oW (o 11) (o 12) (o 13) (o 14) (o 15) (o 16) m,oE n,oS (o 17) a.length,oN,oI p,oP (o 8),oI q,oG r,oT a]):TC)
@[simp] noncomputable def rZ := fun b c d e g h i j k l m n s a p q (r:(Sum Unit (Sum Unit (Sum TT TT)))) (o:NM)=>(match r with | (Sum.inl y)=>(.bm [],sm [oV (o 4) (o 5) (o 6) b c d (o 7),oP (o 8),oI e,oI g,oY (o 9),oI h,oP (o 8),oI i,oQ j k l (o 10),oW (o 11) (o 12) (o 13) (o 14) (o 15) (o 16) m,oE n,oS (o 17) q.length,oN,oI s,oP (o 8),oI a,oG p],[oT q]) | (Sum.inr (Sum.inl y))=>(.bm [],sm [oU (o 4) (o 5) (o 6) b c d (o 7),oP (o 8),oI e,oI g,oY (o 9),oI h,oP (o 8),oI i,oQ j k l (o 10),oX (o 11) (o 12) (o 13) (o 14) (o 15) (o 16) m,oE n,oS (o 17) q.length,oN,oI 3,oP (o 8),oI a,oG p],[oT q]) | (Sum.inr (Sum.inr (Sum.inl y)))=>(.bm [],sm [oV (o 4) (o 5) (o 6) b c d (o 7),oP (o 8),oI e,oI g,oY (o 9),oI h,oP (o 8),oI i,oQ j k l (o 10),oW (o 11) (o 12) (o 13) (o 14) (o 15) (o 16) m,oF n a (o 17) y.1.length,oS (o 18) y.2.length,oN,oI s,oP (o 8),oI a,oG p],[oT y.1,oT y.2]) | (Sum.inr (Sum.inr (Sum.inr y)))=>(.bm [],sm [oU (o 4) (o 5) (o 6) b c d (o 7),oP (o 8),oI e,oI g,oY (o 9),oI h,oP (o 8),oI i,oQ j k l (o 10),oX (o 11) (o 12) (o 13) (o 14) (o 15) (o 16) m,oF n a (o 17) y.1.length,oS (o 18) y.2.length,oN,oI 3,oP (o 8),oI a,oG p],[oT y.1,oT y.2]):TB)
@[simp] noncomputable def ft := fun c d e g h i j k l m n p q r a s t u b (o:NM)=>(([aT c,aI d,aI e,aP (o 0),aP (o 1),aP (o 2)],[oY (o 3),oP (o 4),.arr 1 [.fn (.func 117) [] [aP (o 0),aP (o 1),aP (o 2)]],oV (o 5) (o 6) (o 7) g h i (o 8),oQ j k l (o 9),oY (o 10),oI m,oP (o 4),oI n,oF p q (o 17) a.length,oW (o 11) (o 12) (o 13) (o 14) (o 15) (o 16) r,oS (o 18) b.length,oN,oI s,oP (o 4),oI t,oG u,oT a,oT b]):TC)
@[simp] noncomputable def fu := fun a b c d e g h i j k l p m n (r:(Sum TT TT)) (o:NM)=>(match r with | (Sum.inl y)=>(aB true,sm [oY (o 3),oP (o 4),.arr 1 [.fn (.func 117) [] [aP (o 0),aP (o 1),aP (o 2)]],oV (o 5) (o 6) (o 7) a b c (o 8),oQ d e g (o 9),oY (o 10),oI h,oP (o 4),oI i,oF j k (o 17) y.1.length,oW (o 11) (o 12) (o 13) (o 14) (o 15) (o 16) l,oS (o 18) y.2.length,oN,oI p,oP (o 4),oI m,oG n],[oT y.1,oT y.2]) | (Sum.inr y)=>(aB false,sm [oY (o 3),oP (o 4),.arr 1 [.fn (.func 117) [] [aP (o 0),aP (o 1),aP (o 2)]],oU (o 5) (o 6) (o 7) a b c (o 8),oQ d e g (o 9),oY (o 10),oI h,oP (o 4),oI i,oF j k (o 17) y.1.length,oX (o 11) (o 12) (o 13) (o 14) (o 15) (o 16) l,oS (o 18) y.2.length,oN,oI 3,oP (o 4),oI m,oG n],[oT y.1,oT y.2]):TB)
@[simp] noncomputable def fw := fun a b c d e g h i j k l m n p q r (o:NM)=>(([aT a,aI b,aI c,aP (o 0),aP (o 1),aP (o 2)],[oY (o 3),oP (o 4),.arr 1 [.fn (.func 117) [] [aP (o 0),aP (o 1),aP (o 2)]],oV (o 5) (o 6) (o 7) d e g (o 8),oQ h i j (o 9),oY (o 10),oI k,oP (o 4),oI l,oE m,oW (o 11) (o 12) (o 13) (o 14) (o 15) (o 16) n,oN,oN,oI p,oP (o 4),oI q,oG r]):TC)
@[simp] noncomputable def cU := fun b c d e g h i j k l n a m (r:(Sum Unit (Sum TT TT))) (o:NM)=>(match r with | (Sum.inl y)=>(aB true,sm [oY (o 3),oP (o 4),.arr 1 [.fn (.func 117) [] [aP (o 0),aP (o 1),aP (o 2)]],oV (o 5) (o 6) (o 7) b c d (o 8),oQ e g h (o 9),oY (o 10),oI i,oP (o 4),oI j,oE k,oW (o 11) (o 12) (o 13) (o 14) (o 15) (o 16) l,oN,oN,oI n,oP (o 4),oI a,oG m],[]) | (Sum.inr (Sum.inl y))=>(aB true,sm [oY (o 3),oP (o 4),.arr 1 [.fn (.func 117) [] [aP (o 0),aP (o 1),aP (o 2)]],oV (o 5) (o 6) (o 7) b c d (o 8),oQ e g h (o 9),oY (o 10),oI i,oP (o 4),oI j,oF k a (o 17) y.1.length,oW (o 11) (o 12) (o 13) (o 14) (o 15) (o 16) l,oS (o 18) y.2.length,oN,oI n,oP (o 4),oI a,oG m],[oT y.1,oT y.2]) | (Sum.inr (Sum.inr y))=>(aB false,sm [oY (o 3),oP (o 4),.arr 1 [.fn (.func 117) [] [aP (o 0),aP (o 1),aP (o 2)]],oU (o 5) (o 6) (o 7) b c d (o 8),oQ e g h (o 9),oY (o 10),oI i,oP (o 4),oI j,oF k a (o 17) y.1.length,oX (o 11) (o 12) (o 13) (o 14) (o 15) (o 16) l,oS (o 18) y.2.length,oN,oI 3,oP (o 4),oI a,oG m],[oT y.1,oT y.2]):TB)
@[simp] noncomputable def fy := fun b c d e g h i j k l m n p q r s a (o:NM)=>(([aT b,aI c,aI d,aP (o 0),aP (o 1),aP (o 2)],[oY (o 3),oP (o 4),.arr 1 [.fn (.func 117) [] [aP (o 0),aP (o 1),aP (o 2)]],oV (o 5) (o 6) (o 7) e g h (o 8),oQ i j k (o 9),oY (o 10),oI l,oP (o 4),oI m,oE n,oW (o 11) (o 12) (o 13) (o 14) (o 15) (o 16) p,oS (o 17) a.length,oN,oI q,oP (o 4),oI r,oG s,oT a]):TC)
@[simp] noncomputable def cV := fun b c d e g h i j k l p a m n (r:(Sum Unit (Sum Unit (Sum TT TT)))) (o:NM)=>(match r with | (Sum.inl y)=>(aB true,sm [oY (o 3),oP (o 4),.arr 1 [.fn (.func 117) [] [aP (o 0),aP (o 1),aP (o 2)]],oV (o 5) (o 6) (o 7) b c d (o 8),oQ e g h (o 9),oY (o 10),oI i,oP (o 4),oI j,oE k,oW (o 11) (o 12) (o 13) (o 14) (o 15) (o 16) l,oS (o 17) n.length,oN,oI p,oP (o 4),oI a,oG m],[oT n]) | (Sum.inr (Sum.inl y))=>(aB false,sm [oY (o 3),oP (o 4),.arr 1 [.fn (.func 117) [] [aP (o 0),aP (o 1),aP (o 2)]],oU (o 5) (o 6) (o 7) b c d (o 8),oQ e g h (o 9),oY (o 10),oI i,oP (o 4),oI j,oE k,oX (o 11) (o 12) (o 13) (o 14) (o 15) (o 16) l,oS (o 17) n.length,oN,oI 3,oP (o 4),oI a,oG m],[oT n]) | (Sum.inr (Sum.inr (Sum.inl y)))=>(aB true,sm [oY (o 3),oP (o 4),.arr 1 [.fn (.func 117) [] [aP (o 0),aP (o 1),aP (o 2)]],oV (o 5) (o 6) (o 7) b c d (o 8),oQ e g h (o 9),oY (o 10),oI i,oP (o 4),oI j,oF k a (o 17) y.1.length,oW (o 11) (o 12) (o 13) (o 14) (o 15) (o 16) l,oS (o 18) y.2.length,oN,oI p,oP (o 4),oI a,oG m],[oT y.1,oT y.2]) | (Sum.inr (Sum.inr (Sum.inr y)))=>(aB false,sm [oY (o 3),oP (o 4),.arr 1 [.fn (.func 117) [] [aP (o 0),aP (o 1),aP (o 2)]],oU (o 5) (o 6) (o 7) b c d (o 8),oQ e g h (o 9),oY (o 10),oI i,oP (o 4),oI j,oF k a (o 17) y.1.length,oX (o 11) (o 12) (o 13) (o 14) (o 15) (o 16) l,oS (o 18) y.2.length,oN,oI 3,oP (o 4),oI a,oG m],[oT y.1,oT y.2]):TB)
@[simp] noncomputable def fm := fun a (o:NM)=>(([aT a,.fn (.func 47) [] []],[]):TC)
@[simp] noncomputable def fo := fun(r:LT) (o:NM)=>((aT r,[],[]):TB)
noncomputable def wq (bs:List Nat)  (r:(LT×Int)):St:=NK Tryz.prog (gy 0 (fN r)) bs (sN 16 (Q7 (aB false) (DB 0 (i6 dd) [] 3) (sN 2 (DA (aB false) (DB 1 (dz iZ) [0] 3) (sN 4 (aA (aB false) none (sN 3 (aA (aB false) none (sN 3 (aA (aB false) none (sN 0 (aA (aI 0) none (sN 4 (aA (aB true) none (sN 4 (aA (aB true) none (sN 2 (aA (aB false) none (sN 0 (aA (aI 0) none (sN 6 (DS Tryz.prog (gy 0 (fN r)) (sN 0 (St.start T0 6 ((dz nL id).1) (oL 0 (lV 0 ((dz nL id).2)))))))))))))))))))))))))))
noncomputable def rE := fun(bs:List Nat) (r:(LT×Int)) a0 c a2 a3 a b=>lH (wq bs r) 8 fun o=>([[(11,aP (o 6)),(8,aP (o 1)),(9,aP (o 2)),(10,aP (o 5)),(12,aP (o 7)),(4,aP (o 0)),(3,aI a3)]],[((o 6),oN),((o 1),oN),((o 2),oI 0),((o 5),oP (o 4)),((o 7),oI a),((o 0),oG a0),((o 4),oQ a0 c a2 (o 3)),((o 3),oE b)])
noncomputable def nV : St:=sN 2 (aA (aI 0) none (sN 4 (St.start T0 72 ((dz gr id).1) (oL 1 (lV 0 ((dz gr id).2))))))
noncomputable def nW := fun b c a=>lH nV 1 fun o=>([[(0,aN b),(1,.fn (.func 26) [] [aP (o 0)]),(7,aI (b.length:Int)),(8,aI a)]],[((o 0),oG c)])
noncomputable def nX : St:=sN 2 (aA (aI 0) none (sN 4 (St.start T0 72 ((gu dd id).1) (oL 0 (lV 0 ((gu dd id).2))))))
noncomputable def nY := fun b a=>lH nX 0 fun o=>([[(0,aN b),(1,.fn (.func 27) [] []),(7,aI (b.length:Int)),(8,aI a)]],[])
noncomputable def rG (bs:List Nat)(dM da dN a124:Int)(a dB:ae)(b cG:LI)(c:LM)(r:(Sum TT (Sum TT Unit))):St:=NK Tryz.prog (gy 11 (bn dM da dN a124 a dB b cG c r)) bs (sN 2 (aA (aI 0) none (sN 7 (DS Tryz.prog (gy 11 (bn dM da dN a124 a dB b cG c r)) (sN 0 (St.start T0 73 ((dz jb id).1) (oL 11 (lV 0 ((dz jb id).2)))))))))
noncomputable def iN := fun(bs:List Nat) (r:(Sum TT (Sum TT Unit))) dM da dN a124 a dB b cG c d=>lH (rG bs dM da dN a124 a dB b cG c r) 12 fun o=>([[(3,aP (o 11)),(2,aP (o 2)),(12,aN cG),(1,aP (o 1)),(13,aI (cG.length:Int)),(14,aI d)]],[((o 11),oY (o 0)),((o 2),oI da),((o 1),oP (o 9)),((o 0),oW (o 3) (o 4) (o 5) (o 6) (o 7) (o 8) dM),((o 3),oN),((o 4),oN),((o 5),oI dN),((o 6),oP (o 9)),((o 7),oI a124),((o 8),oG a),((o 9),oQ dB b cG (o 10)),((o 10),oE c)])
noncomputable def qN (bs:List Nat)(a b c d:Int)(e g:ae)(h i:LI)(j:LT)(k:LM)(r:(Sum Unit (Sum TT (Sum TT Unit)))):St:=NK Tryz.prog (gy 11 (bx a b c d e g h i j k r)) bs (sN 2 (aA (aI 0) none (sN 7 (DS Tryz.prog (gy 11 (bx a b c d e g h i j k r)) (sN 0 (St.start T0 73 ((dz iM id).1) (oL 12 (lV 0 ((dz iM id).2)))))))))
noncomputable def im := fun(bs:List Nat) (r:(Sum Unit (Sum TT (Sum TT Unit)))) c d e g h i j a b k l=>lH (qN bs c d e g h i j a b k r) 13 fun o=>([[(3,aP (o 12)),(2,aP (o 2)),(12,aN a),(1,aP (o 1)),(13,aI (a.length:Int)),(14,aI l)]],[((o 12),oY (o 0)),((o 2),oI d),((o 1),oP (o 9)),((o 0),oW (o 3) (o 4) (o 5) (o 6) (o 7) (o 8) c),((o 3),oS (o 11) b.length),((o 4),oN),((o 5),oI e),((o 6),oP (o 9)),((o 7),oI g),((o 8),oG h),((o 9),oQ i j a (o 10)),((o 10),oE k),((o 11),oT b)])
noncomputable def qi : St:=sN 3 (aA (aB false) none (sN 4 (St.start T0 117 ((dz ft id).1) (oL 19 (lV 0 ((dz ft id).2))))))
noncomputable def kE := fun d e g h i j k l m n p q r s (x:LT) t u w (y:LT) c a b=>lH qi 19 fun o=>([[(10,aI c),(2,aI g),(1,aI e),(0,aT d),(5,aP (o 2)),(4,aP (o 1))]],[((o 2),.arr 1 [.fn (.func 117) [] [aP (o 0),aP (o 1),aP (o 2)]]),((o 1),oP (o 4)),((o 0),oY (o 3)),((o 3),oV (o 5) (o 6) (o 7) h i j (o 8)),((o 4),oQ k l m (o 9)),((o 5),oY (o 10)),((o 6),oI n),((o 7),oP (o 4)),((o 8),oI p),((o 9),oF q r (o 17) a.length),((o 10),oW (o 11) (o 12) (o 13) (o 14) (o 15) (o 16) s),((o 11),oS (o 18) b.length),((o 12),oN),((o 13),oI t),((o 14),oP (o 4)),((o 15),oI u),((o 16),oG w),((o 17),oT a),((o 18),oT b)])
noncomputable def qj : St:=sN 3 (aA (aB false) none (sN 4 (St.start T0 117 ((dz fw id).1) (oL 17 (lV 0 ((dz fw id).2))))))
noncomputable def kF := fun b c d e g h i j k l m n p q r s a=>lH qj 17 fun o=>([[(10,aI a),(2,aI d),(1,aI c),(0,aT b),(5,aP (o 2)),(4,aP (o 1))]],[((o 2),.arr 1 [.fn (.func 117) [] [aP (o 0),aP (o 1),aP (o 2)]]),((o 1),oP (o 4)),((o 0),oY (o 3)),((o 3),oV (o 5) (o 6) (o 7) e g h (o 8)),((o 4),oQ i j k (o 9)),((o 5),oY (o 10)),((o 6),oI l),((o 7),oP (o 4)),((o 8),oI m),((o 9),oE n),((o 10),oW (o 11) (o 12) (o 13) (o 14) (o 15) (o 16) p),((o 11),oN),((o 12),oN),((o 13),oI q),((o 14),oP (o 4)),((o 15),oI r),((o 16),oG s)])
noncomputable def ql : St:=sN 3 (aA (aB false) none (sN 4 (St.start T0 117 ((dz fy id).1) (oL 18 (lV 0 ((dz fy id).2))))))
noncomputable def kG := fun c d e g h i j k l m n p q r s t a b=>lH ql 18 fun o=>([[(10,aI b),(2,aI e),(1,aI d),(0,aT c),(5,aP (o 2)),(4,aP (o 1))]],[((o 2),.arr 1 [.fn (.func 117) [] [aP (o 0),aP (o 1),aP (o 2)]]),((o 1),oP (o 4)),((o 0),oY (o 3)),((o 3),oV (o 5) (o 6) (o 7) g h i (o 8)),((o 4),oQ j k l (o 9)),((o 5),oY (o 10)),((o 6),oI m),((o 7),oP (o 4)),((o 8),oI n),((o 9),oE p),((o 10),oW (o 11) (o 12) (o 13) (o 14) (o 15) (o 16) q),((o 11),oS (o 17) a.length),((o 12),oN),((o 13),oI r),((o 14),oP (o 4)),((o 15),oI s),((o 16),oG t),((o 17),oT a)])
noncomputable def mA : St:=sN 2 (aA (aI 0) none (sN 6 (St.start T0 46 ((fm dd id).1) (oL 0 (lV 0 ((fm dd id).2))))))
noncomputable def iw := fun a=>lH mA 0 fun o=>([[(1,.fn (.func 47) [] []),(8,aT a),(9,aI (a.length:Int)),(10,aI 0),(5,.an)]],[])
noncomputable def wt (bs:List Nat)  (r:(LT×Int)):St:=NK Tryz.prog (gy 0 (fN r)) bs (sN 0 (Ay 13 3 (.mp []) (sN 2 (aA (aI 0) none (sN 10 (Qt Tryz.prog (gy 0 (fN r)) 10 0 [] (sN 0 (DV [3,4,8,9,10,10,11,11,11,12,13,13,13,61,62,63,64,65,66,67,68,69,70,71,72,73,74,75,76,77,78,79,79,80,81,82,83,83,84] (DB 11 (bn dd dd dd dd dd dd dd dd dd (Sum.inr (Sum.inl dd))) [11,8,9,6,1,2,5,7,0,4,3] 12) (sN 1 (DA (.fn (.func 73) [] [aP 8,aP 9]) (DB 2 (dz nb) [4,3] 8) (sN 4 (aA (aB true) none (sN 3 (rE [] dd dd dd dd dd dd dd))))))))))))))
noncomputable def wu := fun(bs:List Nat) (r:(LT×Int)) a0 d a2 a3 b a c=>lH (wt bs r) 15 fun o=>([[(11,aP (o 6)),(8,aP (o 1)),(9,aP (o 2)),(10,aP (o 5)),(12,aP (o 14)),(4,aP (o 0)),(3,aI a3)]],[((o 6),oS (o 12) a.length),((o 1),oN),((o 2),oI 0),((o 5),oP (o 4)),((o 14),oI b),((o 0),oG a0),((o 12),oT a),((o 4),oQ a0 d a2 (o 3)),((o 3),oE c)])
noncomputable def rH (bs:List Nat)(dM da dN a124:Int)(a dB:ae)(b cG:LI)(c:LM)(r:(Sum TT (Sum TT Unit))):St:=NK Tryz.prog (gy 11 (bn dM da dN a124 a dB b cG c r)) bs (sN 2 (aA (aI 0) none (sN 8 (fB (fun S=>.skip (S.set 16 (.arr 3 []))) (sN 0 (sS (fun S=>.val (aP 16) S) (sN 0 (fB (fun S=>.val (.aj 16 0 0) (S.add (.arr 3 []))) (sN 6 (fB (fun S=>.skip (S.set 10 (.mp []))) (sN 0 (fB (fun S=>.val (.aj 14 0 0) (S.add (.arr 3 []))) (sN 2 (sS (fun S=>.val (.an) S) (sN 15 (CP 12 (.arr 3 [.agg [aI 2,aI 0,.lit []]]) (sN 11 (aA (aB true) none (sN 4 (aA (.eV [aI 0]) none (sN 3 (aA (aB true) none (sN 1 (iN [] r dM da dN a124 a dB b cG c dd))))))))))))))))))))))))
noncomputable def lD := fun(bs:List Nat) (r:(Sum TT (Sum TT Unit))) dM da dN a124 c dB d cG e g a b=>lH (rH bs dM da dN a124 c dB d cG e r) 17 fun o=>([[(3,aP (o 11)),(2,aP (o 2)),(12,aN cG),(1,aP (o 1)),(13,aI (cG.length:Int)),(14,aI g)]],[((o 11),oY (o 0)),((o 2),oI da),((o 1),oP (o 9)),((o 0),oW (o 3) (o 4) (o 5) (o 6) (o 7) (o 8) dM),((o 3),oS (o 16) a.length),((o 4),oN),((o 5),oI dN),((o 6),oP (o 9)),((o 7),oI a124),((o 8),oG c),((o 9),oQ dB d cG (o 10)),((o 10),oF e a124 (o 14) b.length),((o 16),oT a),((o 14),oT b)])
noncomputable def qO (bs:List Nat)(a b c d:Int)(e g:ae)(h i:LI)(j:LT)(k:LM)(r:(Sum Unit (Sum TT (Sum TT Unit)))):St:=NK Tryz.prog (gy 11 (bx a b c d e g h i j k r)) bs (sN 2 (aA (aI 0) none (sN 8 (fB (fun S=>.skip (S.set 17 (.arr 3 []))) (sN 0 (sS (fun S=>.val (aP 17) S) (sN 0 (fB (fun S=>.val (.aj 17 0 0) ((S.del 11).add (.arr 3 []))) (sN 6 (fB (fun S=>.skip (S.set 10 (.mp []))) (sN 0 (fB (fun S=>.val (.aj 15 0 0) (S.add (.arr 3 []))) (sN 2 (sS (fun S=>.val (.an) S) (sN 12 (aA (aB false) none (sN 2 (CP 13 (.arr 3 [.agg [aI 2,aI 0,.lit []]]) (sN 11 (aA (aB true) none (sN 4 (aA (.eV [aI 0]) none (sN 3 (aA (aB true) none (sN 1 (im [] r a b c d e g h i j k dd))))))))))))))))))))))))))
noncomputable def kX := fun(bs:List Nat) (r:(Sum Unit (Sum TT (Sum TT Unit)))) e g h b i j k a (n:LT) l m c d=>lH (qO bs e g h b i j k a n l r) 18 fun o=>([[(3,aP (o 12)),(2,aP (o 2)),(12,aN a),(1,aP (o 1)),(13,aI (a.length:Int)),(14,aI m)]],[((o 12),oY (o 0)),((o 2),oI g),((o 1),oP (o 9)),((o 0),oW (o 3) (o 4) (o 5) (o 6) (o 7) (o 8) e),((o 3),oS (o 17) c.length),((o 4),oN),((o 5),oI h),((o 6),oP (o 9)),((o 7),oI b),((o 8),oG i),((o 9),oQ j k a (o 10)),((o 10),oF l b (o 15) d.length),((o 17),oT c),((o 15),oT d)])
noncomputable def qm : St:=sN 2 (aA (aI 0) none (sN 0 (fB (fun S=>.val (.lit []) S) (sN 7 (aA (aB true) none (sN 0 (aA (aI 0) none (sN 0 (aA (aI 0) none (sN 4 (dz kE)))))))))))
noncomputable def qn := fun h i j k l m n p q r s t u w (A:LT) x y z (B:LT) c d e g a b=>lH qm 19 fun o=>([[(10,aI c),(2,aI j),(1,aI i),(0,aT h),(5,aP (o 2)),(35,aT d),(4,aP (o 1)),(36,aI e),(37,aI g)]],[((o 2),.arr 1 [.fn (.func 117) [] [aP (o 0),aP (o 1),aP (o 2)]]),((o 1),oP (o 4)),((o 0),oY (o 3)),((o 3),oV (o 5) (o 6) (o 7) k l m (o 8)),((o 4),oQ n p q (o 9)),((o 5),oY (o 10)),((o 6),oI r),((o 7),oP (o 4)),((o 8),oI s),((o 9),oF t u (o 17) a.length),((o 10),oW (o 11) (o 12) (o 13) (o 14) (o 15) (o 16) w),((o 11),oS (o 18) b.length),((o 12),oN),((o 13),oI x),((o 14),oP (o 4)),((o 15),oI y),((o 16),oG z),((o 17),oT a),((o 18),oT b)])
noncomputable def qo : St:=sN 2 (aA (aI 0) none (sN 0 (fB (fun S=>.val (.lit []) S) (sN 7 (aA (aB true) none (sN 0 (aA (aI 0) none (sN 0 (aA (aI 0) none (sN 4 (dz kF)))))))))))
noncomputable def kH := fun d e g h i j k l m n p b q r s t a c=>lH qo 17 fun o=>([[(10,aI a),(2,aI g),(1,aI e),(0,aT d),(5,aP (o 2)),(35,aT ((cS b a).getD ([]:LT))),(4,aP (o 1)),(36,aI (((cS b a).getD ([]:LT)).length:Int)),(37,aI c)]],[((o 2),.arr 1 [.fn (.func 117) [] [aP (o 0),aP (o 1),aP (o 2)]]),((o 1),oP (o 4)),((o 0),oY (o 3)),((o 3),oV (o 5) (o 6) (o 7) h i j (o 8)),((o 4),oQ k l m (o 9)),((o 5),oY (o 10)),((o 6),oI n),((o 7),oP (o 4)),((o 8),oI p),((o 9),oE b),((o 10),oW (o 11) (o 12) (o 13) (o 14) (o 15) (o 16) q),((o 11),oN),((o 12),oN),((o 13),oI r),((o 14),oP (o 4)),((o 15),oI s),((o 16),oG t)])
noncomputable def qp : St:=sN 2 (aA (aI 0) none (sN 0 (fB (fun S=>.val (.lit []) S) (sN 7 (aA (aB true) none (sN 0 (aA (aI 0) none (sN 0 (aA (aI 0) none (sN 4 (dz kG)))))))))))
noncomputable def kI := fun e g h i j k l m n p q b r s t u c a d=>lH qp 18 fun o=>([[(10,aI a),(2,aI h),(1,aI g),(0,aT e),(5,aP (o 2)),(35,aT ((cS b a).getD ([]:LT))),(4,aP (o 1)),(36,aI (((cS b a).getD ([]:LT)).length:Int)),(37,aI d)]],[((o 2),.arr 1 [.fn (.func 117) [] [aP (o 0),aP (o 1),aP (o 2)]]),((o 1),oP (o 4)),((o 0),oY (o 3)),((o 3),oV (o 5) (o 6) (o 7) i j k (o 8)),((o 4),oQ l m n (o 9)),((o 5),oY (o 10)),((o 6),oI p),((o 7),oP (o 4)),((o 8),oI q),((o 9),oE b),((o 10),oW (o 11) (o 12) (o 13) (o 14) (o 15) (o 16) r),((o 11),oS (o 17) c.length),((o 12),oN),((o 13),oI s),((o 14),oP (o 4)),((o 15),oI t),((o 16),oG u),((o 17),oT c)])
noncomputable def mB : St:=sN 6 (fB (fun S=>.val (.aj 2 0 0) (S.add (.arr 3 []))) (sN 1 (aA (.agg [aI 0,aI 0,.lit []]) none (sN 7 (aA (.eV [aI 0,aI 0,.lit []]) none (sN 3 (aA (aB true) none (sN 1 (iw dd)))))))))
noncomputable def mC := fun b c a=>lH mB 3 fun o=>([[(1,.fn (.func 47) [] []),(8,aT b),(9,aI (b.length:Int)),(10,aI c),(5,.aj (o 2) 0 a.length)]],[((o 2),oT a)])
noncomputable def rI (bs:List Nat)(dM da dN a124:Int)(a dB:ae)(b cG:LI)(c:LM)(r:(Sum TT (Sum TT Unit))):St:=NK Tryz.prog (gy 11 (bn dM da dN a124 a dB b cG c r)) bs (sN 2 (aA (aI 0) none (sN 6 (aA (aB false) none (sN 1 (lD [] r dM da dN a124 a dB b cG c dd dd dd))))))
noncomputable def rJ := fun(bs:List Nat) (r:(Sum TT (Sum TT Unit))) dM da dN a124 d dB a cG e g b c=>lH (rI bs dM da dN a124 d dB a cG e r) 17 fun o=>([[(3,aP (o 11)),(2,aP (o 2)),(1,aP (o 1)),(31,aN a),(32,aI (a.length:Int)),(33,aI g)]],[((o 11),oY (o 0)),((o 2),oI da),((o 1),oP (o 9)),((o 0),oW (o 3) (o 4) (o 5) (o 6) (o 7) (o 8) dM),((o 3),oS (o 16) b.length),((o 4),oN),((o 5),oI dN),((o 6),oP (o 9)),((o 7),oI a124),((o 8),oG d),((o 9),oQ dB a cG (o 10)),((o 10),oF e a124 (o 14) c.length),((o 16),oT b),((o 14),oT c)])
noncomputable def qP (bs:List Nat)(a b c d:Int)(e g:ae)(h i:LI)(j:LT)(k:LM)(r:(Sum Unit (Sum TT (Sum TT Unit)))):St:=NK Tryz.prog (gy 11 (bx a b c d e g h i j k r)) bs (sN 2 (aA (aI 0) none (sN 6 (aA (aB false) none (sN 1 (kX [] r a b c d e g h i j k dd dd dd))))))
noncomputable def qQ := fun(bs:List Nat) (r:(Sum Unit (Sum TT (Sum TT Unit)))) e g h b i j a k (n:LT) l m c d=>lH (qP bs e g h b i j a k n l r) 18 fun o=>([[(3,aP (o 12)),(2,aP (o 2)),(1,aP (o 1)),(31,aN a),(32,aI (a.length:Int)),(33,aI m)]],[((o 12),oY (o 0)),((o 2),oI g),((o 1),oP (o 9)),((o 0),oW (o 3) (o 4) (o 5) (o 6) (o 7) (o 8) e),((o 3),oS (o 17) c.length),((o 4),oN),((o 5),oI h),((o 6),oP (o 9)),((o 7),oI b),((o 8),oG i),((o 9),oQ j a k (o 10)),((o 10),oF l b (o 15) d.length),((o 17),oT c),((o 15),oT d)])
noncomputable def qs : St:=sN 2 (aA (aI 0) none (sN 4 (DA (aB true) (DB 17 (cU dd dd dd dd dd dd dd dd dd dd dd dd dd (Sum.inr (Sum.inl dd))) [0,1,2,3,4,5,6,7,8,9,10,11,12,13,14,15,16] 20) (sN 0 (aA (aI 0) none (sN 2 (aA (aI 0) none (sN 1 (fB (fun S=>.val (.lit []) (bump S)) (sN 2 (aA (.clip (.lit [])) none (sN 7 (aA (.eV [aI 0,aI 0,.lit []]) none (sN 3 (aA (aB true) none (sN 1 (dz kH)))))))))))))))))
noncomputable def kJ := fun i j k l m n p q r s t u w x c y d e g h a b=>lH qs 22 fun o=>([[(10,aI d),(2,aI k),(1,aI j),(0,aT i),(5,aP (o 2)),(35,aT e),(4,aP (o 1)),(36,aI g),(37,aI h)]],[((o 2),.arr 1 [.fn (.func 117) [] [aP (o 0),aP (o 1),aP (o 2)]]),((o 1),oP (o 4)),((o 0),oY (o 3)),((o 3),oV (o 5) (o 6) (o 7) l m n (o 8)),((o 4),oQ p q r (o 9)),((o 5),oY (o 10)),((o 6),oI s),((o 7),oP (o 4)),((o 8),oI t),((o 9),oF u c (o 20) a.length),((o 10),oW (o 11) (o 12) (o 13) (o 14) (o 15) (o 16) w),((o 11),oS (o 21) b.length),((o 12),oN),((o 13),oI x),((o 14),oP (o 4)),((o 15),oI c),((o 16),oG y),((o 20),oT a),((o 21),oT b)])
noncomputable def qu : St:=sN 2 (aA (aI 0) none (sN 4 (DA (aB true) (DB 17 (cV dd dd dd dd dd dd dd dd dd dd dd dd dd dd (Sum.inr (Sum.inr (Sum.inl dd)))) [0,1,2,3,4,5,6,7,8,9,10,11,12,13,14,15,16,17] 21) (sN 0 (aA (aI 0) none (sN 2 (aA (aI 0) none (sN 1 (fB (fun S=>.val (.lit []) (bump S)) (sN 2 (aA (.clip (.lit [])) none (sN 7 (aA (.eV [aI 0,aI 0,.lit []]) none (sN 3 (aA (aB true) none (sN 1 (dz kI)))))))))))))))))
noncomputable def kK := fun i j k l m n p q r s t u w x c y (z:LT) d e g h a b=>lH qu 23 fun o=>([[(10,aI d),(2,aI k),(1,aI j),(0,aT i),(5,aP (o 2)),(35,aT e),(4,aP (o 1)),(36,aI g),(37,aI h)]],[((o 2),.arr 1 [.fn (.func 117) [] [aP (o 0),aP (o 1),aP (o 2)]]),((o 1),oP (o 4)),((o 0),oY (o 3)),((o 3),oV (o 5) (o 6) (o 7) l m n (o 8)),((o 4),oQ p q r (o 9)),((o 5),oY (o 10)),((o 6),oI s),((o 7),oP (o 4)),((o 8),oI t),((o 9),oF u c (o 21) a.length),((o 10),oW (o 11) (o 12) (o 13) (o 14) (o 15) (o 16) w),((o 11),oS (o 22) b.length),((o 12),oN),((o 13),oI x),((o 14),oP (o 4)),((o 15),oI c),((o 16),oG y),((o 21),oT a),((o 22),oT b)])
noncomputable def rK (bs:List Nat)(dM da dN a124:Int)(a dB:ae)(b cG:LI)(c:LM)(r:(Sum TT (Sum TT Unit))):St:=NK Tryz.prog (gy 11 (bn dM da dN a124 a dB b cG c r)) bs (sN 2 (aA (aI 0) none (sN 6 (aA (aB false) none (sN 1 (iN [] r dM da dN a124 a dB b cG c dd))))))
noncomputable def rL := fun(bs:List Nat) (r:(Sum TT (Sum TT Unit))) dM da dN a124 b dB a cG c d=>lH (rK bs dM da dN a124 b dB a cG c r) 12 fun o=>([[(3,aP (o 11)),(2,aP (o 2)),(1,aP (o 1)),(31,aN a),(32,aI (a.length:Int)),(33,aI d)]],[((o 11),oY (o 0)),((o 2),oI da),((o 1),oP (o 9)),((o 0),oW (o 3) (o 4) (o 5) (o 6) (o 7) (o 8) dM),((o 3),oN),((o 4),oN),((o 5),oI dN),((o 6),oP (o 9)),((o 7),oI a124),((o 8),oG b),((o 9),oQ dB a cG (o 10)),((o 10),oE c)])
noncomputable def qR (bs:List Nat)(a b c d:Int)(e g:ae)(h i:LI)(j:LT)(k:LM)(r:(Sum Unit (Sum TT (Sum TT Unit)))):St:=NK Tryz.prog (gy 11 (bx a b c d e g h i j k r)) bs (sN 2 (aA (aI 0) none (sN 6 (aA (aB false) none (sN 1 (im [] r a b c d e g h i j k dd))))))
noncomputable def qS := fun(bs:List Nat) (r:(Sum Unit (Sum TT (Sum TT Unit)))) c d e g h i a j b k l=>lH (qR bs c d e g h i a j b k r) 13 fun o=>([[(3,aP (o 12)),(2,aP (o 2)),(1,aP (o 1)),(31,aN a),(32,aI (a.length:Int)),(33,aI l)]],[((o 12),oY (o 0)),((o 2),oI d),((o 1),oP (o 9)),((o 0),oW (o 3) (o 4) (o 5) (o 6) (o 7) (o 8) c),((o 3),oS (o 11) b.length),((o 4),oN),((o 5),oI e),((o 6),oP (o 9)),((o 7),oI g),((o 8),oG h),((o 9),oQ i a j (o 10)),((o 10),oE k),((o 11),oT b)])
noncomputable def qw : St:=sN 2 (aA (aI 0) none (sN 4 (aA (aB false) none (sN 1 (dz kJ)))))
noncomputable def qx := fun e g h i j k l m n p q r s t c u d a b=>lH qw 22 fun o=>([[(10,aI d),(2,aI h),(1,aI g),(0,aT e),(5,aP (o 2)),(4,aP (o 1))]],[((o 2),.arr 1 [.fn (.func 117) [] [aP (o 0),aP (o 1),aP (o 2)]]),((o 1),oP (o 4)),((o 0),oY (o 3)),((o 3),oV (o 5) (o 6) (o 7) i j k (o 8)),((o 4),oQ l m n (o 9)),((o 5),oY (o 10)),((o 6),oI p),((o 7),oP (o 4)),((o 8),oI q),((o 9),oF r c (o 20) a.length),((o 10),oW (o 11) (o 12) (o 13) (o 14) (o 15) (o 16) s),((o 11),oS (o 21) b.length),((o 12),oN),((o 13),oI t),((o 14),oP (o 4)),((o 15),oI c),((o 16),oG u),((o 20),oT a),((o 21),oT b)])
noncomputable def qy : St:=sN 2 (aA (aI 0) none (sN 4 (aA (aB false) none (sN 1 (dz kK)))))
noncomputable def qz := fun e g h i j k l m n p q r s t c u (w:LT) d a b=>lH qy 23 fun o=>([[(10,aI d),(2,aI h),(1,aI g),(0,aT e),(5,aP (o 2)),(4,aP (o 1))]],[((o 2),.arr 1 [.fn (.func 117) [] [aP (o 0),aP (o 1),aP (o 2)]]),((o 1),oP (o 4)),((o 0),oY (o 3)),((o 3),oV (o 5) (o 6) (o 7) i j k (o 8)),((o 4),oQ l m n (o 9)),((o 5),oY (o 10)),((o 6),oI p),((o 7),oP (o 4)),((o 8),oI q),((o 9),oF r c (o 21) a.length),((o 10),oW (o 11) (o 12) (o 13) (o 14) (o 15) (o 16) s),((o 11),oS (o 22) b.length),((o 12),oN),((o 13),oI t),((o 14),oP (o 4)),((o 15),oI c),((o 16),oG u),((o 21),oT a),((o 22),oT b)])
def kV (a17:Int)(pV:ae):Option Bool:=
 if decide (a17<0) then(some true) else(if decide (a17≥(pV.Cons.length:Int)) then(some true) else(some false))
set_option maxRecDepth 100000 in
theorem uK (a17:Int)(pV:ae)(r:Bool)(h:kV a17 pV=some r):fI Tryz.prog 26 1 (vc a17 pV) (vd pV r):=by
 unfold kV at h
 refine jL EE 1 ?_
 refine yB EE 4 h (fun a h=>?_) (fun a h=>?_)
 · cases h
   exact gP EE 10 (aB true) [0] (.pure pv) uT ah
 · refine zL 4 bf pV.Cons ?_
   refine yB EE 0 h (fun b h=>?_) (fun b h=>?_)
   · cases h
     exact gP EE 4 (aB true) [0] (.pure pv) uT ah
   · cases h
     exact gP EE 4 (aB false) [0] (.pure pv) uT ah
def kW (a59:Int):Option Bool:=
 if decide (a59<(-1000000)) then(some true) else(if decide (a59>1000000) then(some true) else(some false))
set_option maxRecDepth 100000 in
theorem uL (a59:Int)(r:Bool)(h:kW a59=some r):fI Tryz.prog 27 0 (ve a59) (vf r):=by
 unfold kW at h
 refine jL EE 0 ?_
 refine yB EE 4 h (fun a h=>?_) (fun a h=>?_)
 · cases h
   exact gP EE 7 (aB true) [] (.pure pv) aW ah
 · refine yB EE 2 h (fun b h=>?_) (fun b h=>?_)
   · cases h
     exact gP EE 4 (aB true) [] (.pure pv) aW ah
   · cases h
     exact gP EE 4 (aB false) [] (.pure pv) aW ah
def eS (b:Int)(KX:ae)(c NO:LI)(a:LM):Option Unit:=
 some ()
set_option maxRecDepth 100000 in
theorem mo (b:Int)(KX:ae)(c NO:LI)(a:LM)(r:Unit)(h:eS b KX c NO a=some r):fI Tryz.prog 28 2 (tf b KX c NO a) (nb b KX c NO a r):=by
 unfold eS at h
 refine jL EE 2 ?_
 cases h
 exact gP EE 9 (.fn (.func 73) [] [aP 2,aP 3]) [0,1,2,3] (ie.QK dK.nil (dK.cons (ie.pA (j:=2) rfl) (dK.cons (ie.pA (j:=3) rfl) dK.nil))) uT (ua (oP 0) (ua (oI b) ah))
def Eb (xM:ae):Option Unit:=
 some ()
set_option maxRecDepth 100000 in
theorem Ib (xM:ae)(r:Unit)(h:Eb xM=some r):fI Tryz.prog 29 1 (Kr xM) (Ks xM r):=by
 intro S nx ids a
 match ids,a with
 | [o0],a=>exact Kp S o0 _ a.2.2.2.1.1
 | [],a=>exact a.2.2.2.elim
 | _::_::_,a=>exact a.2.2.2.2.elim
def eT (zi a:Int)(Aj:ae)(b BJ:LI)(c:LM)(Ak:Int)(d:LT):Option Unit:=
 some ()
set_option maxRecDepth 100000 in
theorem mq (zi a:Int)(Aj:ae)(c BJ:LI)(d:LM)(Ak:Int)(b:LT)(r:Unit)(h:eT zi a Aj c BJ d Ak b=some r):fI Tryz.prog 74 2 (tg zi a Aj c BJ d Ak b) (th zi a Aj c BJ d Ak b r):=by
 unfold eT at h
 refine jL EE 3 ?_
 cases h
 exact gP EE 10 (.fn (.func 116) [] [aP 3,aP 4,aP 5]) [0,1,2,3,4,5] (ie.QK dK.nil (dK.cons (ie.pA (j:=3) rfl) (dK.cons (ie.pA (j:=4) rfl) (dK.cons (ie.pA (j:=5) rfl) dK.nil)))) uT (ua (oT b) (ua (oP 0) (ua (oI zi) (ua (oI a) ah))))
def eU (xN a:Int)(b:ae)(BK c:LI)(Al:LM):Option Unit:=
 some ()
set_option maxRecDepth 100000 in
theorem mr (xN a:Int)(b:ae)(BK c:LI)(Al:LM)(r:Unit)(h:eU xN a b BK c Al=some r):fI Tryz.prog 74 2 (ti xN a b BK c Al) (tj xN a b BK c Al r):=by
 unfold eU at h
 refine jL EE 2 ?_
 cases h
 exact gP EE 10 (.fn (.func 116) [] [aP 2,aP 3,aP 4]) [0,1,2,3,4] (ie.QK dK.nil (dK.cons (ie.pA (j:=2) rfl) (dK.cons (ie.pA (j:=3) rfl) (dK.cons (ie.pA (j:=4) rfl) dK.nil)))) uT (ua (oP 0) (ua (oI xN) (ua (oI a) ah)))
def AL (a:LT)(b:ae):Option LT:=
 ry a b
set_option maxRecDepth 100000 in
theorem GB (c:LT)(b:ae)(r:LT)(h:AL c b=some r):fI Tryz.prog 29 2 (H9 c b) (Ia b r):=by
 intro S nx ids a
 match ids,a with
 | [o0,o1],a=>exact Kq _ _ _ h S o0 o1 (fun e=>by have q:=a.2.2.1;rw[e] at q;simp at q) a.2.2.2.1.1 a.2.2.2.2.1.1 (eL a.2.2.2.1.2)
 | [],a=>exact a.2.2.2.elim
 | [_],a=>exact a.2.2.2.2.elim
 | _::_::_::_,a=>exact a.2.2.2.2.2.elim
def bh (c:LT)(a:Int)(b:LT):Option LT:=
 if decide (a<(c.length:Int)) then(dA c a>>=fun e=>bt e>>=fun d=>if decide (b.length+[d].length≤1048576) then(if du .i64 (a+1) then(bh c (a+1) (b++[d])) else none) else none) else(some b)
 partial_fixpoint
set_option maxRecDepth 100000 in
theorem lG (e:LT):(∀ c b r,bh e c b=some r→SX Tryz.prog (gy 0 (fo r)) (mC e c b)):=by
 refine bh.partial_correctness _ _ ?_
 intro bh a c b r h
 refine yB EE 1 h (fun g h=>?_) (fun g h=>?_)
 · refine yX EE 3 28 50 ez h fun i j h=>?_
   refine yC EE 7 (jd i) h fun d h=>?_
   refine P0 1 2 4 5 b d h fun h=>?_
   refine yI EE 3 h fun k h=>?_
   exact xF EE qk 2 [[1,8,9,10,5]] [5] [(2,5)] 6 (a (c+1) (b++[d]) r h)
 · cases h
   exact gP EE 6 (.aj 2 0 b.length) [] (ie.Ap (sz:=3) (es:=(b.map ai)) (by decide) (by kernel_rfl) (by first | rfl | (simp;done) | omega | (simp;omega)) (by simp[aq,br,bH,aD,-List.map_append,-List.map_drop,-List.map_take,-List.map_set,-List.map_replicate])) aW ah
def dT (a:LT):Option LT:=
 if decide (0<(a.length:Int)) then(dA a 0>>=fun c=>bt c>>=fun b=>if decide ([b].length≤1048576) then(bh a 1 [b]) else none) else(some ([]:LT))
set_option maxRecDepth 100000 in
theorem lQ (a r:LT)(h:dT a=some r):SX Tryz.prog (gy 0 (fo r)) (iw a):=by
 unfold dT at h
 refine yB EE 1 h (fun c h=>?_) (fun c h=>?_)
 · refine yX EE 3 28 50 ez h fun d e h=>?_
   refine yC EE 7 (jd d) h fun b h=>?_
   refine NN 1 1 2 b h fun h=>?_
   exact sL EE qk 6 [[1,8,9,10,5]] [2] ((lG a) 1 [b] r h)
 · cases h
   exact gP EE 6 (.an) [] .an aW ah
def bX (a:LT):Option LT:=
 dT a
set_option maxRecDepth 100000 in
theorem fa (a r:LT)(h:bX a=some r):fI Tryz.prog 46 0 (fm a) (fo r):=by
 unfold bX at h
 refine jL EE 0 ?_
 refine zL 6 ai a ?_
 exact sL EE qk 2 [[1,8,9,10,5]] [] (lQ a r h)
def bM (b:LI)(e:ae)(a:Int):Option Int:=
 if decide (a<(b.length:Int)) then(dA b a>>=fun c=>kV c e>>=fun d=>if d then(some a) else(if du .i64 (a+1) then(bM b e (a+1)) else none)) else(some (-1))
 partial_fixpoint
set_option maxRecDepth 100000 in
theorem mS (k:LI)(e:ae):(∀ b r,bM k e b=some r→SX Tryz.prog (gy 1 (jX e r)) (nW k e b)):=by
 refine bM.partial_correctness _ _ _ ?_
 intro bM a b r h
 refine yB EE 1 h (fun i h=>?_) (fun i h=>?_)
 · refine yX EE 9 25 3 (Dv .i64) h fun j l h=>?_
   obtain⟨c,g,h⟩:=bC h
   refine yG EE 1 (v:=aB c) (uK j e c g _ 1 [0] gw) ?_
   cases d:c with
   | true=>
     have h:=wy d h
     cases h
     exact gP EE 5 (aI b) [0] (.pure pv) uT ah
   | false=>
     have h:=wA d h
     refine yI EE 2 h fun m h=>?_
     exact sL EE qk 2 [[0,1,7,8]] [0] (a (b+1) r h)
 · cases h
   exact gP EE 5 (aI (-1)) [0] (.pure pv) uT ah
def fh (a:LI)(b:ae):Option Int:=
 bM a b 0
set_option maxRecDepth 100000 in
theorem nZ (a:LI)(b:ae)(r:Int)(h:fh a b=some r):fI Tryz.prog 72 1 (gr a b) (jX b r):=by
 unfold fh at h
 refine jL EE 1 ?_
 refine zL 4 (dX .i64) a ?_
 exact sL EE qk 2 [[0,1,7,8]] [0] ((mS a b) 0 r h)
def bN (b:LI)(a:Int):Option Int:=
 if decide (a<(b.length:Int)) then(dA b a>>=fun c=>kW c>>=fun d=>if d then(some a) else(if du .i64 (a+1) then(bN b (a+1)) else none)) else(some (-1))
 partial_fixpoint
set_option maxRecDepth 100000 in
theorem mT (j:LI):(∀ b r,bN j b=some r→SX Tryz.prog (gy 0 (jY r)) (nY j b)):=by
 refine bN.partial_correctness _ _ ?_
 intro bN a b r h
 refine yB EE 1 h (fun g h=>?_) (fun g h=>?_)
 · refine yX EE 9 25 3 (Dv .i64) h fun i k h=>?_
   obtain⟨c,e,h⟩:=bC h
   refine KW EE 1 (v:=aB c) (uL i c e _ 0 [] gw) ?_
   cases d:c with
   | true=>
     have h:=wy d h
     cases h
     exact gP EE 5 (aI b) [] (.pure pv) aW ah
   | false=>
     have h:=wA d h
     refine yI EE 2 h fun l h=>?_
     exact sL EE qk 2 [[0,1,7,8]] [] (a (b+1) r h)
 · cases h
   exact gP EE 5 (aI (-1)) [] (.pure pv) aW ah
def fi (a:LI):Option Int:=
 bN a 0
set_option maxRecDepth 100000 in
theorem n0 (a:LI)(r:Int)(h:fi a=some r):fI Tryz.prog 72 0 (gu a) (jY r):=by
 unfold fi at h
 refine jL EE 0 ?_
 refine zL 4 (dX .i64) a ?_
 exact sL EE qk 2 [[0,1,7,8]] [] ((mT a) 0 r h)
mutual
def bP (c:LT)(d e:Int)(g:LI)(h i:Int)(j:ae)(k l:LI)(m n:Int)(o:LM)(p q:Int)(C:LT)(r s:Int)(t:ae)(D:LT)(a:Int)(u:LT)(w b:Int)(x y:LT):Option (Sum TT TT):=
 if decide (b<w) then(dA u b>>=fun z=>if decide ((c++[z]).length≤1048576) then(if du .i64 (d-1) then(if du .i64 (e-a) then(bJ (c++[z]) (d-1) (e-a) g h i j k l m n o p q x r s t y>>=fun E=>(match E with | (Sum.inl A)=>if du .i64 (b+1) then(bP c d e g h i j k l m n o p q C r s t D a u w (b+1) A.1 A.2) else none | (Sum.inr B)=>some (Sum.inr (B.1,B.2)))) else none) else none) else none) else(if du .i64 (a+1) then(ct c d e g h i j k l m n o p q C r s t D (a+1) x y) else none)
 partial_fixpoint
def ct (i:LT)(b c:Int)(j:LI)(k l:Int)(m:ae)(n o:LI)(p q:Int)(d:LM)(e r:Int)(s:LT)(t u:Int)(w:ae)(x:LT)(a:Int)(g h:LT):Option (Sum TT TT):=
 if du .i64 (c-b) then(if du .i64 ((c-b)+1) then(if decide (a≤((c-b)+1)) then(if decide ((cS d e).isNone=true∧¬ (a:Int)=e) then(bP i b c j k l m n o p q d e r s t u w x a ((cS d a).getD ([]:LT)) (((cS d a).getD ([]:LT)).length:Int) 0 g h) else none) else(some (Sum.inl (g,h)))) else none) else none
 partial_fixpoint
def bJ (i:LT)(j k:Int)(l:LI)(m n:Int)(o:ae)(p q:LI)(r e:Int)(g:LM)(c s:Int)(b:LT)(t h:Int)(u:ae)(a:LT):Option (Sum TT TT):=
 if decide (j=0) then(if decide (k>0) then(some (Sum.inl (b,a))) else(bX i>>=fun d=>if decide ((a.length:Int)=100) then(some (Sum.inr (b,a))) else(if decide ((cS g c).isNone=true∧(h:Int)=c) then(if decide (b.length+[(Term.mk 3 e d)].length≤1048576) then(if decide ((cS g c).isNone=true∧(h:Int)=c) then(if decide (a.length+[(Term.mk 0 0 ([]:LT))].length≤1048576) then(dA (a++[(Term.mk 0 0 ([]:LT))]) a.length>>=fun w=>dA (a++[(Term.mk 0 0 ([]:LT))]) a.length>>=fun x=>some (Sum.inl ((b++[(Term.mk 3 e d)]),((a++[(Term.mk 0 0 ([]:LT))]).set (a.length:Int).toNat (Term.mk 3 e d))))) else none) else none) else none) else none))) else(ct i j k l m n o p q r e g c s b t h u a 1 b a)
 partial_fixpoint
end
set_option maxRecDepth 100000 in
theorem n4 (u:LI)(w A:Int)(B:ae)(C D:LI)(E n:Int)(j:LM)(o F G q:Int)(H:ae):(∀ i k m d e t M N O I J r,bP i k m u w A B C D E n j o F d G q H e t M N O I J=some r→SX Tryz.prog (gy 17 (fu u w A B C D E n j o F G q H r)) (qn i k m u w A B C D E n j o F d G q H e t M N O I J))∧(∀ i k m d e p K L r,ct i k m u w A B C D E n j o F d G q H e p K L=some r→SX Tryz.prog (gy 17 (fu u w A B C D E n j o F G q H r)) (kE i k m u w A B C D E n j o F d G q H e p K L))∧(∀ i k m d e r,bJ i k m u w A B C D E n j o F d G q H e=some r→fI Tryz.prog 117 17 (ft i k m u w A B C D E n j o F d G q H e) (fu u w A B C D E n j o F G q H r)):=by
 refine bP.mutual_partial_correctness _ _ _ _ _ _ _ _ _ _ _ _ _ _ _ _ _ ?_ ?_ ?_
 · intro bP ct bJ a b bF i k m d e t M N O I J r h
   refine yB EE 1 h (fun Y h=>?_) (fun Y h=>?_)
   · refine yX EE 3 28 50 ez h fun R ex2245 h=>?_
     refine YO EE 7 (wW i) ?_
     refine YQ 2 20 i R h fun h=>?_
     refine yI EE 1 h fun c2254 h=>?_
     refine yI EE 2 h fun c2253 h=>?_
     obtain⟨Z,U,h⟩:=bC h
     rcases Z with W | Q
     · dsimp only at h
       refine yG EE 0 (v:=aB true) (bF (i++[R]) (k-1) (m-t) I J _ U _ 22 [0,1,2,3,4,5,6,7,8,9,10,11,12,13,14,15,16,17,18] gw) ?_
       refine yI EE 4 h fun c2250 h=>?_
       exact xF EE qk 2 [[10,2,1,0,5,35,4,36,37]] [2,1,0,3,4,5,6,7,8,9,10,11,12,13,14,15,16,22,23] [(17,22),(18,23)] 24 (a i k m d e t M N (O+1) W.1 W.2 r h)
     · dsimp only at h
       refine yG EE 0 (v:=aB false) (bF (i++[R]) (k-1) (m-t) I J _ U _ 22 [0,1,2,3,4,5,6,7,8,9,10,11,12,13,14,15,16,17,18] gw) ?_
       cases h
       exact gP EE 6 (aB false) [0,1,2,3,4,5,6,7,8,9,10,11,12,13,14,15,16,22,23] (.pure pv) (us (us (us (us (us (us (us (us (us (uo (oF j o 22 Q.1.length) (us (uo (oS 23 Q.2.length) uT)))))))))))) (ua (oT Q.1) (ua (oT Q.2) ah))
   · refine yI EE 4 h fun c2255 h=>?_
     exact sL EE qk 2 [[10,2,1,0,5,4]] [2,1,0,3,4,5,6,7,8,9,10,11,12,13,14,15,16,17,18] (b i k m d e (t+1) I J r h)
 · intro bP a i k m d e p K L r h
   refine yI EE 4 h fun c2257 h=>?_
   refine yI EE 0 h fun c2256 h=>?_
   refine yB EE 0 h (fun c2222 h=>?_) (fun c2222 h=>?_)
   · obtain⟨d2223,h⟩:=kY h
     refine Fw EE 7 (fun S=>vg Tryz.prog S 80 (.dJ 9) (aI p) false) (aT ((cS j p).getD ([]:LT))) (by kernel_rfl) (by kernel_rfl) (Ea (enc:=ai) (l:=j) (c:=o) (x:=p) (V:=.aj 17 0 K.length) (by kernel_rfl) (by kernel_rfl) (of_decide_eq_true d2223)) ?_
     refine zL 0 ai ((cS j p).getD ([]:LT)) ?_
     exact sL EE qk 2 [[10,2,1,0,5,35,4,36,37]] [2,1,0,3,4,5,6,7,8,9,10,11,12,13,14,15,16,17,18] (a i k m d e p ((cS j p).getD ([]:LT)) (((cS j p).getD ([]:LT)).length:Int) 0 K L r h)
   · cases h
     exact gP EE 4 (aB true) [0,1,2,3,4,5,6,7,8,9,10,11,12,13,14,15,16,17,18] (.pure pv) uT (ua (oT K) (ua (oT L) ah))
 · intro ct b i k m d e r h
   refine jL EE 19 ?_ (by rcases r with y | y<;>exact bc)
   refine yB EE 4 h (fun c2183 h=>?_) (fun c2183 h=>?_)
   · refine yB EE 2 h (fun c2184 h=>?_) (fun c2184 h=>?_)
     · cases h
       exact gP EE 8 (aB true) [0,1,2,3,4,5,6,7,8,9,10,11,12,13,14,15,16,17,18] (.pure pv) uT (ua (oT d) (ua (oT e) ah))
     · obtain⟨s,X,h⟩:=bC h
       refine KW EE 13 (fa i s X _ 19 [] gw) ?_
       refine yB EE 10 h (fun c2187 h=>?_) (fun c2187 h=>?_)
       · cases h
         exact gP EE 13 (aB false) [0,1,2,3,4,5,6,7,8,9,10,11,12,13,14,15,16,17,18] (.pure pv) uT (ua (oT d) (ua (oT e) ah))
       · obtain⟨d2188,h⟩:=kY h
         refine qE EE 12 (fun S=>vg Tryz.prog S 80 (.dJ 9) (aI q) false) (fun S=>.val (.aj 17 0 d.length) S) (by kernel_rfl) (by kernel_rfl) (PD (g:=(iW ai)) (l:=j) (c:=o) (x:=q) (z:=.an) (by kernel_rfl) (by kernel_rfl) (of_decide_eq_true d2188)) ?_
         refine P0 2 17 20 21 d (Term.mk 3 n s) h fun h=>?_
         obtain⟨T,h⟩:=kY h
         have T:=of_decide_eq_true T
         refine eo EE 0 (fun S=>EO Tryz.prog S 80 (.dJ 9) (aI q) (.aj 21 0 ((d++[(Term.mk 3 n s)]).length))) (fun S=>.skip (S.set 9 (oF j o 21 ((d++[(Term.mk 3 n s)]).length)))) (by kernel_rfl) (by kernel_rfl) (PF (g:=(iW ai)) (l:=j) (c:=o) (x:=q) (z:=.an) (V:=.aj 17 0 d.length) (by kernel_rfl) (by kernel_rfl) (by kernel_rfl) T) ?_
         refine Yn 6 18 22 23 e h fun h=>?_
         refine QP 0 23 h fun x2192 ex2192 h=>?_
         refine NX 0 23 (Term.mk 3 n s) h fun x2193 h=>?_
         cases h
         exact gP EE 12 (aB true) [0,1,2,3,4,5,6,7,8,9,10,11,12,13,14,15,16,21,23] (.pure pv) (us (us (us (us (us (us (us (us (us (uo (oF j o 21 ((d++[(Term.mk 3 n s)]).length)) (us (uo (oS 23 ((e++[(Term.mk 0 0 ([]:LT))]).length)) uT)))))))))))) (ua (oT (d++[(Term.mk 3 n s)])) (ua (oT ((e++[(Term.mk 0 0 ([]:LT))]).set (e.length:Int).toNat (Term.mk 3 n s))) ah))
   · exact sL EE qk 3 [[10,2,1,0,5,4]] [2,1,0,3,4,5,6,7,8,9,10,11,12,13,14,15,16,17,18] (b i k m d e 1 d e r h)
theorem bF (q:LT)(s t:Int)(a:LI)(b c:Int)(d:ae)(e g:LI)(i j:Int)(k:LM)(l m:Int)(u:LT)(n o:Int)(p:ae)(w:LT)(r:(Sum TT TT))(h:bJ q s t a b c d e g i j k l m u n o p w=some r):fI Tryz.prog 117 17 (ft q s t a b c d e g i j k l m u n o p w) (fu a b c d e g i j k l m n o p r):=(n4 a b c d e g i j k l m n o p).2.2 q s t u w r h
mutual
def cW (i:LT)(b c:Int)(j:LI)(k l:Int)(m:ae)(n o:LI)(p q:Int)(d:LM)(r s e:Int)(t:ae)(a:Int)(g h:LT):Option (Sum Unit (Sum TT TT)):=
 if du .i64 (c-b) then(if du .i64 ((c-b)+1) then(if decide (a≤((c-b)+1)) then(if decide ((cS d e).isNone=true∧¬ (a:Int)=e) then(bp i b c j k l m n o p q d r s e t a ((cS d a).getD ([]:LT)) (((cS d a).getD ([]:LT)).length:Int) 0 g h) else none) else(some (Sum.inr (Sum.inl (g,h))))) else none) else none
 partial_fixpoint
def bp (c:LT)(d e:Int)(h:LI)(i j:Int)(k:ae)(l m:LI)(n o:Int)(p:LM)(q r g:Int)(s:ae)(a:Int)(t:LT)(u b:Int)(w x:LT):Option (Sum Unit (Sum TT TT)):=
 if decide (b<u) then(dA t b>>=fun y=>if decide ((c++[y]).length≤1048576) then(if du .i64 (d-1) then(if du .i64 (e-a) then(bJ (c++[y]) (d-1) (e-a) h i j k l m n o p g q w r g s x>>=fun B=>(match B with | (Sum.inl z)=>if du .i64 (b+1) then(bp c d e h i j k l m n o p q r g s a t u (b+1) z.1 z.2) else none | (Sum.inr A)=>some (Sum.inr (Sum.inr (A.1,A.2))))) else none) else none) else none) else(if du .i64 (a+1) then(cW c d e h i j k l m n o p q r g s (a+1) w x) else none)
 partial_fixpoint
end
set_option maxRecDepth 100000 in
theorem n5 (o:LT)(D E:Int)(p:LI)(q s:Int)(t:ae)(u w:LI)(y z:Int)(d:LM)(A B g:Int)(C:ae):(∀ e i k r,cW o D E p q s t u w y z d A B g C e i k=some r→SX Tryz.prog (gy 17 (cU p q s t u w y z d A B g C r)) (qx o D E p q s t u w y z d A B g C e i k))∧(∀ j F G H m n r,bp o D E p q s t u w y z d A B g C j F G H m n=some r→SX Tryz.prog (gy 17 (cU p q s t u w y z d A B g C r)) (kJ o D E p q s t u w y z d A B g C j F G H m n)):=by
 refine cW.mutual_partial_correctness _ _ _ _ _ _ _ _ _ _ _ _ _ _ _ _ _ _ ?_ ?_
 · intro bp a e i k r h
   refine yI EE 4 h fun T h=>?_
   refine yI EE 0 h fun U h=>?_
   refine yB EE 0 h (fun M h=>?_) (fun M h=>?_)
   · obtain⟨N,h⟩:=kY h
     refine Fw EE 7 (fun S=>vg Tryz.prog S 80 (.dJ 9) (aI e) false) (aT ((cS d e).getD ([]:LT))) (by kernel_rfl) (by kernel_rfl) (Ea (enc:=ai) (l:=d) (c:=g) (x:=e) (V:=.aj 20 0 i.length) (by kernel_rfl) (by kernel_rfl) (of_decide_eq_true N)) ?_
     refine zL 0 ai ((cS d e).getD ([]:LT)) ?_
     exact sL EE qk 2 [[10,2,1,0,5,35,4,36,37]] [2,1,0,3,4,5,6,7,8,9,10,11,12,13,14,15,16,20,21] (a e ((cS d e).getD ([]:LT)) (((cS d e).getD ([]:LT)).length:Int) 0 i k r h)
   · cases h
     exact gP EE 4 (aB true) [0,1,2,3,4,5,6,7,8,9,10,11,12,13,14,15,16,20,21] (.pure pv) (us (us (us (us (us (us (us (us (us (uo (oF d g 20 i.length) (us (uo (oS 21 k.length) uT)))))))))))) (ua (oT i) (ua (oT k) ah))
 · intro cW bp b a j F G H m n r h
   refine yB EE 1 h (fun O h=>?_) (fun O h=>?_)
   · refine yX EE 3 28 50 ez h fun J R h=>?_
     refine YO EE 7 (wW o) ?_
     refine YQ 2 23 o J h fun h=>?_
     refine yI EE 1 h fun W h=>?_
     refine yI EE 2 h fun X h=>?_
     obtain⟨Q,K,h⟩:=bC h
     rcases Q with L | I
     · dsimp only at h
       refine yG EE 0 (v:=aB true) (bF (o++[J]) (D-1) (E-j) p q s t u w y z d g A m B g C n _ K _ 25 [0,1,2,3,4,5,6,7,8,9,10,11,12,13,14,15,16,20,21] gw) ?_
       refine yI EE 4 h fun Y h=>?_
       exact xF EE qk 2 [[10,2,1,0,5,35,4,36,37]] [2,1,0,3,4,5,6,7,8,9,10,11,12,13,14,15,16,25,26] [(20,25),(21,26)] 27 (a j F G (H+1) L.1 L.2 r h)
     · dsimp only at h
       refine yG EE 0 (v:=aB false) (bF (o++[J]) (D-1) (E-j) p q s t u w y z d g A m B g C n _ K _ 25 [0,1,2,3,4,5,6,7,8,9,10,11,12,13,14,15,16,20,21] gw) ?_
       cases h
       exact gP EE 6 (aB false) [0,1,2,3,4,5,6,7,8,9,10,11,12,13,14,15,16,25,26] (.pure pv) (us (us (us (us (us (us (us (us (us (uo (oF d g 25 I.1.length) (us (uo (oS 26 I.2.length) uT)))))))))))) (ua (oT I.1) (ua (oT I.2) ah))
   · refine yI EE 4 h fun Z h=>?_
     exact sL EE qk 2 [[10,2,1,0,5,4]] [2,1,0,3,4,5,6,7,8,9,10,11,12,13,14,15,16,20,21] (b (j+1) m n r h)
mutual
def bQ (d:LT)(e g:Int)(h:LI)(i j:Int)(k:ae)(l m:LI)(n o:Int)(c:LM)(p q r:Int)(s:ae)(a b:Int):Option (Sum Unit (Sum TT TT)):=
 if decide (b<(((cS c a).getD ([]:LT)).length:Int)) then(dA ((cS c a).getD ([]:LT)) b>>=fun t=>if decide ((d++[t]).length≤1048576) then(if du .i64 (e-1) then(if du .i64 (g-a) then(cK (d++[t]) (e-1) (g-a) h i j k l m n o c p q r s>>=fun x=>(match x with | (Sum.inl y)=>if du .i64 (b+1) then(bQ d e g h i j k l m n o c p q r s a (b+1)) else none | (Sum.inr (Sum.inl u))=>if du .i64 (b+1) then(bp d e g h i j k l m n o c p q r s a ((cS c a).getD ([]:LT)) (((cS c a).getD ([]:LT)).length:Int) (b+1) u.1 u.2) else none | (Sum.inr (Sum.inr w))=>some (Sum.inr (Sum.inr (w.1,w.2))))) else none) else none) else none) else(if du .i64 (a+1) then(cu d e g h i j k l m n o c p q r s (a+1)) else none)
 partial_fixpoint
def cu (d:LT)(a b:Int)(e:LI)(g h:Int)(i:ae)(j k:LI)(l m:Int)(n:LM)(o p q:Int)(r:ae)(c:Int):Option (Sum Unit (Sum TT TT)):=
 if du .i64 (b-a) then(if du .i64 ((b-a)+1) then(if decide (c≤((b-a)+1)) then(bQ d a b e g h i j k l m n o p q r c 0) else(some (Sum.inl ()))) else none) else none
 partial_fixpoint
def cK (e:LT)(g h:Int)(i:LI)(j k:Int)(l:ae)(m n:LI)(o b:Int)(c:LM)(p q d:Int)(r:ae):Option (Sum Unit (Sum TT TT)):=
 if decide (g=0) then(if decide (h>0) then(some (Sum.inl ())) else(bX e>>=fun a=>if decide ((cS c d).isNone=true) then(if decide ([(Term.mk 3 b a)].length≤1048576) then(if decide ((cS c d).isNone=true) then(if decide ([(Term.mk 0 0 ([]:LT))].length≤1048576) then(dA [(Term.mk 0 0 ([]:LT))] 0>>=fun s=>dA [(Term.mk 0 0 ([]:LT))] 0>>=fun t=>some (Sum.inr (Sum.inl ([(Term.mk 3 b a)],([(Term.mk 0 0 ([]:LT))].set (0:Int).toNat (Term.mk 3 b a)))))) else none) else none) else none) else none)) else(cu e g h i j k l m n o b c p q d r 1)
 partial_fixpoint
end
set_option maxRecDepth 100000 in
theorem n9 (o:LI)(p q:Int)(s:ae)(t u:LI)(w k:Int)(e:LM)(A B m:Int)(C:ae):(∀ d i j c D r,bQ d i j o p q s t u w k e A B m C c D=some r→SX Tryz.prog (gy 17 (cU o p q s t u w k e A B m C r)) (kH d i j o p q s t u w k e A B m C c D))∧(∀ d i j c r,cu d i j o p q s t u w k e A B m C c=some r→SX Tryz.prog (gy 17 (cU o p q s t u w k e A B m C r)) (kF d i j o p q s t u w k e A B m C c))∧(∀ d i j r,cK d i j o p q s t u w k e A B m C=some r→fI Tryz.prog 117 17 (fw d i j o p q s t u w k e A B m C) (cU o p q s t u w k e A B m C r)):=by
 refine bQ.mutual_partial_correctness _ _ _ _ _ _ _ _ _ _ _ _ _ _ _ _ ?_ ?_ ?_
 · intro bQ cu cK a b cJ d i j c D r h
   refine yB EE 1 h (fun K h=>?_) (fun K h=>?_)
   · refine yX EE 3 28 50 ez h fun E R h=>?_
     refine YO EE 7 (wW d) ?_
     refine YQ 2 18 d E h fun h=>?_
     refine yI EE 1 h fun U h=>?_
     refine yI EE 2 h fun V h=>?_
     obtain⟨L,G,h⟩:=bC h
     rcases L with W | I | F
     · dsimp only at h
       refine yG EE 0 (v:=aB true) (cJ (d++[E]) (i-1) (j-c) _ G _ 20 [0,1,2,3,4,5,6,7,8,9,10,11,12,13,14,15,16] gw) ?_
       refine yI EE 4 h fun X h=>?_
       exact xF EE qk 2 [[10,2,1,0,5,35,4,36,37]] [2,1,0,3,4,5,6,7,8,9,10,11,12,13,14,15,16] [] 20 (a d i j c (D+1) r h)
     · dsimp only at h
       refine yG EE 0 (v:=aB true) (cJ (d++[E]) (i-1) (j-c) _ G _ 20 [0,1,2,3,4,5,6,7,8,9,10,11,12,13,14,15,16] gw) ?_
       refine yI EE 4 h fun Y h=>?_
       exact sL EE qk 2 [[10,2,1,0,5,35,4,36,37]] [2,1,0,3,4,5,6,7,8,9,10,11,12,13,14,15,16,20,21] ((n5 d i j o p q s t u w k e A B m C).2 c ((cS e c).getD ([]:LT)) (((cS e c).getD ([]:LT)).length:Int) (D+1) I.1 I.2 r h)
     · dsimp only at h
       refine yG EE 0 (v:=aB false) (cJ (d++[E]) (i-1) (j-c) _ G _ 20 [0,1,2,3,4,5,6,7,8,9,10,11,12,13,14,15,16] gw) ?_
       cases h
       exact gP EE 6 (aB false) [0,1,2,3,4,5,6,7,8,9,10,11,12,13,14,15,16,20,21] (.pure pv) (us (us (us (us (us (us (us (us (us (uo (oF e m 20 F.1.length) (us (uo (oS 21 F.2.length) uT)))))))))))) (ua (oT F.1) (ua (oT F.2) ah))
   · refine yI EE 4 h fun Z h=>?_
     exact sL EE qk 2 [[10,2,1,0,5,4]] [2,1,0,3,4,5,6,7,8,9,10,11,12,13,14,15,16] (b d i j (c+1) r h)
 · intro bQ a d i j c r h
   refine yI EE 4 h fun c2409 h=>?_
   refine yI EE 0 h fun c2408 h=>?_
   refine yB EE 0 h (fun M h=>?_) (fun M h=>?_)
   · refine Fw EE 7 (fun S=>vg Tryz.prog S 80 (.dJ 9) (aI c) false) (aT ((cS e c).getD ([]:LT))) (by kernel_rfl) (by kernel_rfl) (aqs (enc:=ai) (l:=e) (x:=c) (by kernel_rfl) (by kernel_rfl)) ?_
     refine zL 0 ai ((cS e c).getD ([]:LT)) ?_
     exact sL EE qk 2 [[10,2,1,0,5,35,4,36,37]] [2,1,0,3,4,5,6,7,8,9,10,11,12,13,14,15,16] (a d i j c 0 r h)
   · cases h
     exact gP EE 4 (aB true) [0,1,2,3,4,5,6,7,8,9,10,11,12,13,14,15,16] (.pure pv) uT ah
 · intro cu b d i j r h
   refine jL EE 17 ?_ (by rcases r with y | y | y<;>exact bc)
   refine yB EE 4 h (fun N h=>?_) (fun N h=>?_)
   · refine yB EE 2 h (fun O h=>?_) (fun O h=>?_)
     · cases h
       exact gP EE 8 (aB true) [0,1,2,3,4,5,6,7,8,9,10,11,12,13,14,15,16] (.pure pv) uT ah
     · obtain⟨n,J,h⟩:=bC h
       refine KW EE 13 (fa d n J _ 17 [] gw) ?_
       obtain⟨Q,h⟩:=kY h
       refine qE EE 23 (fun S=>vg Tryz.prog S 80 (.dJ 9) (aI m) false) (fun S=>.val (.an) S) (by kernel_rfl) (by kernel_rfl) (Ab (g:=(iW ai)) (l:=e) (x:=m) (by kernel_rfl) (by kernel_rfl) (of_decide_eq_true Q)) ?_
       refine NN 2 18 19 (Term.mk 3 k n) h fun h=>?_
       obtain⟨H,h⟩:=kY h
       have H:=of_decide_eq_true H
       refine eo EE 0 (fun S=>EO Tryz.prog S 80 (.dJ 9) (aI m) (.aj 19 0 [(Term.mk 3 k n)].length)) (fun S=>.skip (S.set 9 (oF e m 19 [(Term.mk 3 k n)].length))) (by kernel_rfl) (by kernel_rfl) (DU (g:=(iW ai)) (l:=e) (x:=m) (z:=.an) (by kernel_rfl) (by kernel_rfl) (by kernel_rfl) H) ?_
       refine acM 6 20 21 h fun h=>?_
       refine QP 0 21 h fun x2266 T h=>?_
       refine NX 0 21 (Term.mk 3 k n) h fun x2267 h=>?_
       cases h
       exact gP EE 12 (aB true) [0,1,2,3,4,5,6,7,8,9,10,11,12,13,14,15,16,19,21] (.pure pv) (us (us (us (us (us (us (us (us (us (uo (oF e m 19 [(Term.mk 3 k n)].length) (us (uo (oS 21 [(Term.mk 0 0 ([]:LT))].length) uT)))))))))))) (ua (oT [(Term.mk 3 k n)]) (ua (oT ([(Term.mk 0 0 ([]:LT))].set (0:Int).toNat (Term.mk 3 k n))) ah))
   · exact sL EE qk 3 [[10,2,1,0,5,4]] [2,1,0,3,4,5,6,7,8,9,10,11,12,13,14,15,16] (b d i j 1 r h)
theorem cJ (p:LT)(q s:Int)(a:LI)(b c:Int)(d:ae)(e g:LI)(i j:Int)(k:LM)(l m n:Int)(o:ae)(r:(Sum Unit (Sum TT TT)))(h:cK p q s a b c d e g i j k l m n o=some r):fI Tryz.prog 117 17 (fw p q s a b c d e g i j k l m n o) (cU a b c d e g i j k l m n o r):=(n9 a b c d e g i j k l m n o).2.2 p q s r h
mutual
def cX (i:LT)(b c:Int)(j:LI)(k l:Int)(m:ae)(n o:LI)(p q:Int)(d:LM)(r s e:Int)(t:ae)(u:LT)(a:Int)(g h:LT):Option (Sum Unit (Sum Unit (Sum TT TT))):=
 if du .i64 (c-b) then(if du .i64 ((c-b)+1) then(if decide (a≤((c-b)+1)) then(if decide ((cS d e).isNone=true∧¬ (a:Int)=e) then(bq i b c j k l m n o p q d r s e t u a ((cS d a).getD ([]:LT)) (((cS d a).getD ([]:LT)).length:Int) 0 g h) else none) else(some (Sum.inr (Sum.inr (Sum.inl (g,h)))))) else none) else none
 partial_fixpoint
def bq (c:LT)(d e:Int)(h:LI)(i j:Int)(k:ae)(l m:LI)(n o:Int)(p:LM)(q r g:Int)(s:ae)(B:LT)(a:Int)(t:LT)(u b:Int)(w x:LT):Option (Sum Unit (Sum Unit (Sum TT TT))):=
 if decide (b<u) then(dA t b>>=fun y=>if decide ((c++[y]).length≤1048576) then(if du .i64 (d-1) then(if du .i64 (e-a) then(bJ (c++[y]) (d-1) (e-a) h i j k l m n o p g q w r g s x>>=fun C=>(match C with | (Sum.inl z)=>if du .i64 (b+1) then(bq c d e h i j k l m n o p q r g s B a t u (b+1) z.1 z.2) else none | (Sum.inr A)=>some (Sum.inr (Sum.inr (Sum.inr (A.1,A.2)))))) else none) else none) else none) else(if du .i64 (a+1) then(cX c d e h i j k l m n o p q r g s B (a+1) w x) else none)
 partial_fixpoint
end
set_option maxRecDepth 100000 in
theorem oc (o:LT)(D E:Int)(p:LI)(q s:Int)(t:ae)(u w:LI)(y z:Int)(d:LM)(A B g:Int)(C:ae)(F:LT):(∀ e i k r,cX o D E p q s t u w y z d A B g C F e i k=some r→SX Tryz.prog (gy 17 (cV p q s t u w y z d A B g C F r)) (qz o D E p q s t u w y z d A B g C F e i k))∧(∀ j G H I m n r,bq o D E p q s t u w y z d A B g C F j G H I m n=some r→SX Tryz.prog (gy 17 (cV p q s t u w y z d A B g C F r)) (kK o D E p q s t u w y z d A B g C F j G H I m n)):=by
 refine cX.mutual_partial_correctness _ _ _ _ _ _ _ _ _ _ _ _ _ _ _ _ _ _ _ ?_ ?_
 · intro bq a e i k r h
   refine yI EE 4 h fun U h=>?_
   refine yI EE 0 h fun W h=>?_
   refine yB EE 0 h (fun N h=>?_) (fun N h=>?_)
   · obtain⟨O,h⟩:=kY h
     refine Fw EE 7 (fun S=>vg Tryz.prog S 80 (.dJ 9) (aI e) false) (aT ((cS d e).getD ([]:LT))) (by kernel_rfl) (by kernel_rfl) (Ea (enc:=ai) (l:=d) (c:=g) (x:=e) (V:=.aj 21 0 i.length) (by kernel_rfl) (by kernel_rfl) (of_decide_eq_true O)) ?_
     refine zL 0 ai ((cS d e).getD ([]:LT)) ?_
     exact sL EE qk 2 [[10,2,1,0,5,35,4,36,37]] [2,1,0,3,4,5,6,7,8,9,10,11,12,13,14,15,16,21,22] (a e ((cS d e).getD ([]:LT)) (((cS d e).getD ([]:LT)).length:Int) 0 i k r h)
   · cases h
     exact gP EE 4 (aB true) [0,1,2,3,4,5,6,7,8,9,10,11,12,13,14,15,16,21,22] (.pure pv) (us (us (us (us (us (us (us (us (us (uo (oF d g 21 i.length) (us (uo (oS 22 k.length) uT)))))))))))) (ua (oT i) (ua (oT k) ah))
 · intro cX bq b a j G H I m n r h
   refine yB EE 1 h (fun Q h=>?_) (fun Q h=>?_)
   · refine yX EE 3 28 50 ez h fun K T h=>?_
     refine YO EE 7 (wW o) ?_
     refine YQ 2 24 o K h fun h=>?_
     refine yI EE 1 h fun X h=>?_
     refine yI EE 2 h fun Y h=>?_
     obtain⟨R,L,h⟩:=bC h
     rcases R with M | J
     · dsimp only at h
       refine yG EE 0 (v:=aB true) (bF (o++[K]) (D-1) (E-j) p q s t u w y z d g A m B g C n _ L _ 26 [0,1,2,3,4,5,6,7,8,9,10,11,12,13,14,15,16,21,22] gw) ?_
       refine yI EE 4 h fun Z h=>?_
       exact xF EE qk 2 [[10,2,1,0,5,35,4,36,37]] [2,1,0,3,4,5,6,7,8,9,10,11,12,13,14,15,16,26,27] [(21,26),(22,27)] 28 (a j G H (I+1) M.1 M.2 r h)
     · dsimp only at h
       refine yG EE 0 (v:=aB false) (bF (o++[K]) (D-1) (E-j) p q s t u w y z d g A m B g C n _ L _ 26 [0,1,2,3,4,5,6,7,8,9,10,11,12,13,14,15,16,21,22] gw) ?_
       cases h
       exact gP EE 6 (aB false) [0,1,2,3,4,5,6,7,8,9,10,11,12,13,14,15,16,26,27] (.pure pv) (us (us (us (us (us (us (us (us (us (uo (oF d g 26 J.1.length) (us (uo (oS 27 J.2.length) uT)))))))))))) (ua (oT J.1) (ua (oT J.2) ah))
   · refine yI EE 4 h fun c2560 h=>?_
     exact sL EE qk 2 [[10,2,1,0,5,4]] [2,1,0,3,4,5,6,7,8,9,10,11,12,13,14,15,16,21,22] (b (j+1) m n r h)
mutual
def bR (d:LT)(e g:Int)(h:LI)(i j:Int)(k:ae)(l m:LI)(n o:Int)(c:LM)(p q r:Int)(s:ae)(t:LT)(a b:Int):Option (Sum Unit (Sum Unit (Sum TT TT))):=
 if decide (b<(((cS c a).getD ([]:LT)).length:Int)) then(dA ((cS c a).getD ([]:LT)) b>>=fun u=>if decide ((d++[u]).length≤1048576) then(if du .i64 (e-1) then(if du .i64 (g-a) then(cL (d++[u]) (e-1) (g-a) h i j k l m n o c p q r s t>>=fun y=>(match y with | (Sum.inl z)=>if du .i64 (b+1) then(bR d e g h i j k l m n o c p q r s t a (b+1)) else none | (Sum.inr (Sum.inl A))=>some (Sum.inr (Sum.inl ())) | (Sum.inr (Sum.inr (Sum.inl w)))=>if du .i64 (b+1) then(bq d e g h i j k l m n o c p q r s t a ((cS c a).getD ([]:LT)) (((cS c a).getD ([]:LT)).length:Int) (b+1) w.1 w.2) else none | (Sum.inr (Sum.inr (Sum.inr x)))=>some (Sum.inr (Sum.inr (Sum.inr (x.1,x.2)))))) else none) else none) else none) else(if du .i64 (a+1) then(cw d e g h i j k l m n o c p q r s t (a+1)) else none)
 partial_fixpoint
def cw (d:LT)(a b:Int)(e:LI)(g h:Int)(i:ae)(j k:LI)(l m:Int)(n:LM)(o p q:Int)(r:ae)(s:LT)(c:Int):Option (Sum Unit (Sum Unit (Sum TT TT))):=
 if du .i64 (b-a) then(if du .i64 ((b-a)+1) then(if decide (c≤((b-a)+1)) then(bR d a b e g h i j k l m n o p q r s c 0) else(some (Sum.inl ()))) else none) else none
 partial_fixpoint
def cL (g:LT)(h i:Int)(j:LI)(k l:Int)(m:ae)(n o:LI)(p c:Int)(d:LM)(q r e:Int)(s:ae)(a:LT):Option (Sum Unit (Sum Unit (Sum TT TT))):=
 if decide (h=0) then(if decide (i>0) then(some (Sum.inl ())) else(bX g>>=fun b=>if decide ((a.length:Int)=100) then(some (Sum.inr (Sum.inl ()))) else(if decide ((cS d e).isNone=true) then(if decide ([(Term.mk 3 c b)].length≤1048576) then(if decide ((cS d e).isNone=true) then(if decide (a.length+[(Term.mk 0 0 ([]:LT))].length≤1048576) then(dA (a++[(Term.mk 0 0 ([]:LT))]) a.length>>=fun t=>dA (a++[(Term.mk 0 0 ([]:LT))]) a.length>>=fun u=>some (Sum.inr (Sum.inr (Sum.inl ([(Term.mk 3 c b)],((a++[(Term.mk 0 0 ([]:LT))]).set (a.length:Int).toNat (Term.mk 3 c b))))))) else none) else none) else none) else none))) else(cw g h i j k l m n o p c d q r e s a 1)
 partial_fixpoint
end
set_option maxRecDepth 100000 in
theorem od (p:LI)(q s:Int)(t:ae)(u w:LI)(A m:Int)(e:LM)(B C n:Int)(D:ae)(k:LT):(∀ d i j c F r,bR d i j p q s t u w A m e B C n D k c F=some r→SX Tryz.prog (gy 17 (cV p q s t u w A m e B C n D k r)) (kI d i j p q s t u w A m e B C n D k c F))∧(∀ d i j c r,cw d i j p q s t u w A m e B C n D k c=some r→SX Tryz.prog (gy 17 (cV p q s t u w A m e B C n D k r)) (kG d i j p q s t u w A m e B C n D k c))∧(∀ d i j r,cL d i j p q s t u w A m e B C n D k=some r→fI Tryz.prog 117 17 (fy d i j p q s t u w A m e B C n D k) (cV p q s t u w A m e B C n D k r)):=by
 refine bR.mutual_partial_correctness _ _ _ _ _ _ _ _ _ _ _ _ _ _ _ _ _ ?_ ?_ ?_
 · intro bR cw cL a b bG d i j c F r h
   refine yB EE 1 h (fun L h=>?_) (fun L h=>?_)
   · refine yX EE 3 28 50 ez h fun G U h=>?_
     refine YO EE 7 (wW d) ?_
     refine YQ 2 19 d G h fun h=>?_
     refine yI EE 1 h fun W h=>?_
     refine yI EE 2 h fun X h=>?_
     obtain⟨M,E,h⟩:=bC h
     rcases M with Y | Z | J | H
     · dsimp only at h
       refine yG EE 0 (v:=aB true) (bG (d++[G]) (i-1) (j-c) _ E _ 21 [0,1,2,3,4,5,6,7,8,9,10,11,12,13,14,15,16,17] gw) ?_
       refine yI EE 4 h fun c2513 h=>?_
       exact xF EE qk 2 [[10,2,1,0,5,35,4,36,37]] [2,1,0,3,4,5,6,7,8,9,10,11,12,13,14,15,16,21] [(17,21)] 22 (a d i j c (F+1) r h)
     · dsimp only at h
       refine yG EE 0 (v:=aB false) (bG (d++[G]) (i-1) (j-c) _ E _ 21 [0,1,2,3,4,5,6,7,8,9,10,11,12,13,14,15,16,17] gw) ?_
       cases h
       exact gP EE 6 (aB false) [0,1,2,3,4,5,6,7,8,9,10,11,12,13,14,15,16,21] (.pure pv) (us (us (us (us (us (us (us (us (us (us (us (uo (oS 21 k.length) uT)))))))))))) (ua (oT k) ah)
     · dsimp only at h
       refine yG EE 0 (v:=aB true) (bG (d++[G]) (i-1) (j-c) _ E _ 21 [0,1,2,3,4,5,6,7,8,9,10,11,12,13,14,15,16,17] gw) ?_
       refine yI EE 4 h fun c2561 h=>?_
       exact sL EE qk 2 [[10,2,1,0,5,35,4,36,37]] [2,1,0,3,4,5,6,7,8,9,10,11,12,13,14,15,16,21,22] ((oc d i j p q s t u w A m e B C n D k).2 c ((cS e c).getD ([]:LT)) (((cS e c).getD ([]:LT)).length:Int) (F+1) J.1 J.2 r h)
     · dsimp only at h
       refine yG EE 0 (v:=aB false) (bG (d++[G]) (i-1) (j-c) _ E _ 21 [0,1,2,3,4,5,6,7,8,9,10,11,12,13,14,15,16,17] gw) ?_
       cases h
       exact gP EE 6 (aB false) [0,1,2,3,4,5,6,7,8,9,10,11,12,13,14,15,16,21,22] (.pure pv) (us (us (us (us (us (us (us (us (us (uo (oF e n 21 H.1.length) (us (uo (oS 22 H.2.length) uT)))))))))))) (ua (oT H.1) (ua (oT H.2) ah))
   · refine yI EE 4 h fun c2566 h=>?_
     exact sL EE qk 2 [[10,2,1,0,5,4]] [2,1,0,3,4,5,6,7,8,9,10,11,12,13,14,15,16,17] (b d i j (c+1) r h)
 · intro bR a d i j c r h
   refine yI EE 4 h fun c2568 h=>?_
   refine yI EE 0 h fun c2567 h=>?_
   refine yB EE 0 h (fun N h=>?_) (fun N h=>?_)
   · refine Fw EE 7 (fun S=>vg Tryz.prog S 80 (.dJ 9) (aI c) false) (aT ((cS e c).getD ([]:LT))) (by kernel_rfl) (by kernel_rfl) (aqs (enc:=ai) (l:=e) (x:=c) (by kernel_rfl) (by kernel_rfl)) ?_
     refine zL 0 ai ((cS e c).getD ([]:LT)) ?_
     exact sL EE qk 2 [[10,2,1,0,5,35,4,36,37]] [2,1,0,3,4,5,6,7,8,9,10,11,12,13,14,15,16,17] (a d i j c 0 r h)
   · cases h
     exact gP EE 4 (aB true) [0,1,2,3,4,5,6,7,8,9,10,11,12,13,14,15,16,17] (.pure pv) uT (ua (oT k) ah)
 · intro cw b d i j r h
   refine jL EE 18 ?_ (by rcases r with y | y | y | y<;>exact bc)
   refine yB EE 4 h (fun O h=>?_) (fun O h=>?_)
   · refine yB EE 2 h (fun Q h=>?_) (fun Q h=>?_)
     · cases h
       exact gP EE 8 (aB true) [0,1,2,3,4,5,6,7,8,9,10,11,12,13,14,15,16,17] (.pure pv) uT (ua (oT k) ah)
     · obtain⟨o,K,h⟩:=bC h
       refine KW EE 13 (fa d o K _ 18 [] gw) ?_
       refine yB EE 10 h (fun R h=>?_) (fun R h=>?_)
       · cases h
         exact gP EE 13 (aB false) [0,1,2,3,4,5,6,7,8,9,10,11,12,13,14,15,16,17] (.pure pv) uT (ua (oT k) ah)
       · obtain⟨T,h⟩:=kY h
         refine qE EE 12 (fun S=>vg Tryz.prog S 80 (.dJ 9) (aI n) false) (fun S=>.val (.an) S) (by kernel_rfl) (by kernel_rfl) (Ab (g:=(iW ai)) (l:=e) (x:=n) (by kernel_rfl) (by kernel_rfl) (of_decide_eq_true T)) ?_
         refine NN 2 19 20 (Term.mk 3 m o) h fun h=>?_
         obtain⟨I,h⟩:=kY h
         have I:=of_decide_eq_true I
         refine eo EE 0 (fun S=>EO Tryz.prog S 80 (.dJ 9) (aI n) (.aj 20 0 [(Term.mk 3 m o)].length)) (fun S=>.skip (S.set 9 (oF e n 20 [(Term.mk 3 m o)].length))) (by kernel_rfl) (by kernel_rfl) (DU (g:=(iW ai)) (l:=e) (x:=n) (z:=.an) (by kernel_rfl) (by kernel_rfl) (by kernel_rfl) I) ?_
         refine Yn 6 17 21 22 k h fun h=>?_
         refine QP 0 22 h fun x2419 V h=>?_
         refine NX 0 22 (Term.mk 3 m o) h fun x2420 h=>?_
         cases h
         exact gP EE 12 (aB true) [0,1,2,3,4,5,6,7,8,9,10,11,12,13,14,15,16,20,22] (.pure pv) (us (us (us (us (us (us (us (us (us (uo (oF e n 20 [(Term.mk 3 m o)].length) (us (uo (oS 22 ((k++[(Term.mk 0 0 ([]:LT))]).length)) uT)))))))))))) (ua (oT [(Term.mk 3 m o)]) (ua (oT ((k++[(Term.mk 0 0 ([]:LT))]).set (k.length:Int).toNat (Term.mk 3 m o))) ah))
   · exact sL EE qk 3 [[10,2,1,0,5,4]] [2,1,0,3,4,5,6,7,8,9,10,11,12,13,14,15,16,17] (b d i j 1 r h)
theorem bG (q:LT)(s t:Int)(a:LI)(b c:Int)(d:ae)(e g:LI)(i j:Int)(k:LM)(l m n:Int)(o:ae)(p:LT)(r:(Sum Unit (Sum Unit (Sum TT TT))))(h:cL q s t a b c d e g i j k l m n o p=some r):fI Tryz.prog 117 17 (fy q s t a b c d e g i j k l m n o p) (cV a b c d e g i j k l m n o p r):=(od a b c d e g i j k l m n o p).2.2 q s t r h
def dD (b:LI)(c:ae):Option Bool:=
 fh b c>>=fun a=>if decide (a≥0) then(some true) else(some false)
set_option maxRecDepth 100000 in
theorem mU (c:LI)(a:ae)(r:Bool)(h:dD c a=some r):fI Tryz.prog 25 1 (nc c a) (iZ a r):=by
 unfold dD at h
 refine jL EE 1 ?_
 obtain⟨d,b,h⟩:=bC h
 refine yG EE 5 (nZ c a d b _ 1 [0] gw) ?_
 refine yB EE 0 h (fun e h=>?_) (fun e h=>?_)
 · cases h
   exact gP EE 3 (aB true) [0] (.pure pv) uT ah
 · cases h
   exact gP EE 3 (aB false) [0] (.pure pv) uT ah
def dE (b:LI):Option Bool:=
 fi b>>=fun a=>if decide (a≥0) then(some true) else(some false)
set_option maxRecDepth 100000 in
theorem mV (b:LI)(r:Bool)(h:dE b=some r):fI Tryz.prog 25 0 (nf b) (i6 r):=by
 unfold dE at h
 refine jL EE 0 ?_
 obtain⟨c,a,h⟩:=bC h
 refine KW EE 5 (n0 b c a _ 0 [] gw) ?_
 refine yB EE 0 h (fun d h=>?_) (fun d h=>?_)
 · cases h
   exact gP EE 3 (aB true) [] (.pure pv) aW ah
 · cases h
   exact gP EE 3 (aB false) [] (.pure pv) aW ah
def ep (d:LI)(e g h i j k:Int)(l:ae)(m n:LI)(o:Int)(p:LM)(q r s:Int)(t:ae)(u w:LT):Option (Sum TT TT):=
 bJ ([]:LT) h i d e g l m n j k p q o u r s t w>>=fun c=>(match c with | (Sum.inl a)=>some (Sum.inl (a.1,a.2)) | (Sum.inr b)=>some (Sum.inr (b.1,b.2)))
set_option maxRecDepth 100000 in
theorem fP (e:LI)(g i j k l m:Int)(n:ae)(o p:LI)(q:Int)(a:LM)(b s t:Int)(u:ae)(w x:LT)(r:(Sum TT TT))(h:ep e g i j k l m n o p q a b s t u w x=some r):fI Tryz.prog 116 17 (rU e g i j k l m n o p q a b s t u w x) (rV e g i j k l m n o p q a b s t u r):=by
 unfold ep at h
 refine jL EE 19 ?_ (by rcases r with y | y<;>exact bc)
 obtain⟨A,z,h⟩:=bC h
 rcases A with c | d
 · dsimp only at h
   refine GU EE 11 (bF ([]:LT) j k e g i n o p l m a b q w s t u x _ z _ 21 [19,1,20,0,8,4,5,6,7,10,9,11,12,13,14,15,16,17,18] gw) ?_
   cases h
   exact gP EE 2 (.bm []) [0,1,2,3,4,5,6,7,8,9,10,11,12,13,14,15,16,21,22] (.pure pv) (us (us (us (us (us (us (us (us (us (us (uo (oF a b 21 c.1.length) (uo (oS 22 c.2.length) uT)))))))))))) (ua (oT c.1) (ua (oT c.2) ah))
 · dsimp only at h
   refine GU EE 11 (bF ([]:LT) j k e g i n o p l m a b q w s t u x _ z _ 21 [19,1,20,0,8,4,5,6,7,10,9,11,12,13,14,15,16,17,18] gw) ?_
   cases h
   exact gP EE 2 (.bm []) [0,1,2,3,4,5,6,7,8,9,10,11,12,13,14,15,16,21,22] (.pure pv) (us (us (us (us (us (us (us (us (us (us (uo (oF a b 21 d.1.length) (uo (oS 22 d.2.length) uT)))))))))))) (ua (oT d.1) (ua (oT d.2) ah))
def gY (d:LI)(e g h i j k:Int)(l:ae)(m n:LI)(o:Int)(p:LM)(q r:Int)(s:ae):Option (Sum Unit (Sum TT TT)):=
 cK ([]:LT) h i d e g l m n j k p o q r s>>=fun c=>(match c with | (Sum.inl t)=>some (Sum.inl ()) | (Sum.inr (Sum.inl a))=>some (Sum.inr (Sum.inl (a.1,a.2))) | (Sum.inr (Sum.inr b))=>some (Sum.inr (Sum.inr (b.1,b.2))))
set_option maxRecDepth 100000 in
theorem iO (c:LI)(d e g i j k:Int)(l:ae)(m n:LI)(o:Int)(a:LM)(p b:Int)(q:ae)(r:(Sum Unit (Sum TT TT)))(h:gY c d e g i j k l m n o a p b q=some r):fI Tryz.prog 116 17 (rW c d e g i j k l m n o a p b q) (rX c d e g i j k l m n o a p b q r):=by
 unfold gY at h
 refine jL EE 17 ?_ (by rcases r with y | y | y<;>exact bc)
 obtain⟨w,u,h⟩:=bC h
 rcases w with x | s | t
 · dsimp only at h
   refine GU EE 11 (cJ ([]:LT) g i c d e l m n j k a o p b q _ u _ 19 [17,1,18,0,8,4,5,6,7,10,9,11,12,13,14,15,16] gw) ?_
   cases h
   exact gP EE 2 (.bm []) [0,1,2,3,4,5,6,7,8,9,10,11,12,13,14,15,16] (.pure pv) uT ah
 · dsimp only at h
   refine GU EE 11 (cJ ([]:LT) g i c d e l m n j k a o p b q _ u _ 19 [17,1,18,0,8,4,5,6,7,10,9,11,12,13,14,15,16] gw) ?_
   cases h
   exact gP EE 2 (.bm []) [0,1,2,3,4,5,6,7,8,9,10,11,12,13,14,15,16,19,20] (.pure pv) (us (us (us (us (us (us (us (us (us (us (uo (oF a b 19 s.1.length) (uo (oS 20 s.2.length) uT)))))))))))) (ua (oT s.1) (ua (oT s.2) ah))
 · dsimp only at h
   refine GU EE 11 (cJ ([]:LT) g i c d e l m n j k a o p b q _ u _ 19 [17,1,18,0,8,4,5,6,7,10,9,11,12,13,14,15,16] gw) ?_
   cases h
   exact gP EE 2 (.bm []) [0,1,2,3,4,5,6,7,8,9,10,11,12,13,14,15,16,19,20] (.pure pv) (us (us (us (us (us (us (us (us (us (us (uo (oF a b 19 t.1.length) (uo (oS 20 t.2.length) uT)))))))))))) (ua (oT t.1) (ua (oT t.2) ah))
def gZ (d:LI)(e g h i j k:Int)(l:ae)(m n:LI)(o:Int)(p:LM)(q r:Int)(s:ae)(t:LT):Option (Sum Unit (Sum Unit (Sum TT TT))):=
 cL ([]:LT) h i d e g l m n j k p o q r s t>>=fun c=>(match c with | (Sum.inl u)=>some (Sum.inl ()) | (Sum.inr (Sum.inl w))=>some (Sum.inr (Sum.inl ())) | (Sum.inr (Sum.inr (Sum.inl a)))=>some (Sum.inr (Sum.inr (Sum.inl (a.1,a.2)))) | (Sum.inr (Sum.inr (Sum.inr b)))=>some (Sum.inr (Sum.inr (Sum.inr (b.1,b.2)))))
set_option maxRecDepth 100000 in
theorem fQ (e:LI)(g i j k l m:Int)(n:ae)(o p:LI)(q:Int)(b:LM)(s c:Int)(t:ae)(a:LT)(r:(Sum Unit (Sum Unit (Sum TT TT))))(h:gZ e g i j k l m n o p q b s c t a=some r):fI Tryz.prog 116 17 (rY e g i j k l m n o p q b s c t a) (rZ e g i j k l m n o p q b s c t a r):=by
 unfold gZ at h
 refine jL EE 18 ?_ (by rcases r with y | y | y | y<;>exact bc)
 obtain⟨x,d,h⟩:=bC h
 rcases x with z | A | u | w
 · dsimp only at h
   refine GU EE 11 (bG ([]:LT) j k e g i n o p l m b q s c t a _ d _ 20 [18,1,19,0,8,4,5,6,7,10,9,11,12,13,14,15,16,17] gw) ?_
   cases h
   exact gP EE 2 (.bm []) [0,1,2,3,4,5,6,7,8,9,10,11,12,13,14,15,16,20] (.pure pv) (us (us (us (us (us (us (us (us (us (us (us (uo (oS 20 a.length) uT)))))))))))) (ua (oT a) ah)
 · dsimp only at h
   refine GU EE 11 (bG ([]:LT) j k e g i n o p l m b q s c t a _ d _ 20 [18,1,19,0,8,4,5,6,7,10,9,11,12,13,14,15,16,17] gw) ?_
   cases h
   exact gP EE 2 (.bm []) [0,1,2,3,4,5,6,7,8,9,10,11,12,13,14,15,16,20] (.pure pv) (us (us (us (us (us (us (us (us (us (us (us (uo (oS 20 a.length) uT)))))))))))) (ua (oT a) ah)
 · dsimp only at h
   refine GU EE 11 (bG ([]:LT) j k e g i n o p l m b q s c t a _ d _ 20 [18,1,19,0,8,4,5,6,7,10,9,11,12,13,14,15,16,17] gw) ?_
   cases h
   exact gP EE 2 (.bm []) [0,1,2,3,4,5,6,7,8,9,10,11,12,13,14,15,16,20,21] (.pure pv) (us (us (us (us (us (us (us (us (us (us (uo (oF b c 20 u.1.length) (uo (oS 21 u.2.length) uT)))))))))))) (ua (oT u.1) (ua (oT u.2) ah))
 · dsimp only at h
   refine GU EE 11 (bG ([]:LT) j k e g i n o p l m b q s c t a _ d _ 20 [18,1,19,0,8,4,5,6,7,10,9,11,12,13,14,15,16,17] gw) ?_
   cases h
   exact gP EE 2 (.bm []) [0,1,2,3,4,5,6,7,8,9,10,11,12,13,14,15,16,20,21] (.pure pv) (us (us (us (us (us (us (us (us (us (us (uo (oF b c 20 w.1.length) (uo (oS 21 w.2.length) uT)))))))))))) (ua (oT w.1) (ua (oT w.2) ah))
def cq (dM da dN a124:Int)(k dB:ae)(a cG:LI)(d:LM)(b:Int)(e c:LT):Option (Sum TT (Sum TT Unit)):=
 if decide (b<(a.length:Int)) then(dA a b>>=fun g=>dA dB.Cons g>>=fun h=>if du .i64 (da-1) then(eT h.dF (da-1) dB a cG d a124 c>>=fun m=>ep a (a.length:Int) b h.dF (da-1) da g dB a cG dM d a124 dN a124 k c e>>=fun l=>(match l with | (Sum.inl i)=>if du .i64 (b+1) then(cq dM da dN a124 k dB a cG d (b+1) i.2 i.1) else none | (Sum.inr j)=>some (Sum.inl (j.2,j.1)))) else none) else(some (Sum.inr (Sum.inl (e,c))))
 partial_fixpoint
set_option maxRecDepth 100000 in
theorem ki (dM da dN a124:Int)(j dB:ae)(c cG:LI)(g:LM):(∀ e d b r,cq dM da dN a124 j dB c cG g e d b=some r→∀ bs:List Nat,SX Tryz.prog (gy 11 (bn dM da dN a124 j dB c cG g r)) (rJ bs  r dM da dN a124 j dB c cG g e d b)):=by
 refine cq.partial_correctness _ _ _ _ _ _ _ _ _ _ ?_
 intro cq a e d b r h
 intro m
 refine yB EE 1 h (fun s h=>?_) (fun s h=>?_)
 · refine yX EE 3 25 3 (Dv .i64) h fun n x h=>?_
   refine yX EE 12 22 35 cB h fun k y h=>?_
   refine yI EE 3 h fun z h=>?_
   obtain⟨t,q,h⟩:=bC h
   refine yG EE 0 (mq k.dF (da-1) dB c cG g a124 b t q _ 18 [9,10,14] gw) ?_
   obtain⟨u,l,h⟩:=bC h
   rcases u with o | i
   · dsimp only at h
     refine EP EE 2 [1,2,3,7,8,31,32,33,50,51,52,53,54,55,56,57] (fP c (c.length:Int) e k.dF (da-1) da n dB c cG dM g a124 dN a124 j b d _ l _ 24 [23,19,20,21,11,2,1,17,9,0,10,3,4,5,6,7,8,18,16] gw) ?_
     refine iV EE qk 0 22 (bs:=m) (by kernel_rfl) (by kernel_rfl) (by kernel_rfl) (by kernel_rfl) (fun p=>?_)
     refine yI EE 3 h fun A h=>?_
     exact NW EE qk 2 [[3,2,1,31,32,33]] [11,2,1,0,3,4,5,6,7,8,9,10,25,24] [(16,25),(14,24)] 26 (p::m) (a (e+1) o.2 o.1 r h (p::m))
   · dsimp only at h
     refine EP EE 2 [1,2,3,7,8,31,32,33,50,51,52,53,54,55,56,57] (fP c (c.length:Int) e k.dF (da-1) da n dB c cG dM g a124 dN a124 j b d _ l _ 24 [23,19,20,21,11,2,1,17,9,0,10,3,4,5,6,7,8,18,16] gw) ?_
     refine iV EE qk 0 22 (bs:=m) (by kernel_rfl) (by kernel_rfl) (by kernel_rfl) (by kernel_rfl) (fun w=>?_)
     cases h
     exact za EE 2 (w::m) (.bm []) [0,1,2,3,4,5,6,7,8,9,10,25,24] (.pure pv) (us (us (us (uo (oS 25 i.2.length) (us (us (us (us (us (us (uo (oF g a124 24 i.1.length) aW))))))))))) (ua (oT i.2) (ua (oT i.1) ah))
 · cases h
   exact za EE 2 m (.bm []) [0,1,2,3,4,5,6,7,8,9,10,16,14] (.pure pv) (us (us (us (uo (oS 16 d.length) (us (us (us (us (us (us (uo (oF g a124 14 b.length) aW))))))))))) (ua (oT d) (ua (oT b) ah))
def cr (dM da dN a124:Int)(g dB:ae)(h cG:LI)(d:LM)(b:Int)(a c:LT):Option (Sum TT (Sum TT Unit)):=
 if decide (b<(cG.length:Int)) then(dA cG b>>=fun e=>if decide (da=1) then(if decide ((a.length:Int)=100) then(some (Sum.inl (a,c))) else(if decide ((cS d a124).isNone=true) then(if decide (c.length+[(Term.mk 2 e ([]:LT))].length≤1048576) then(if decide ((cS d a124).isNone=true) then(if decide (a.length+[(Term.mk 0 0 ([]:LT))].length≤1048576) then(dA (a++[(Term.mk 0 0 ([]:LT))]) a.length>>=fun i=>dA (a++[(Term.mk 0 0 ([]:LT))]) a.length>>=fun j=>if du .i64 (b+1) then(cr dM da dN a124 g dB h cG d (b+1) ((a++[(Term.mk 0 0 ([]:LT))]).set (a.length:Int).toNat (Term.mk 2 e ([]:LT))) (c++[(Term.mk 2 e ([]:LT))])) else none) else none) else none) else none) else none)) else(if du .i64 (b+1) then(cr dM da dN a124 g dB h cG d (b+1) a c) else none)) else(cq dM da dN a124 g dB h cG d 0 a c)
 partial_fixpoint
set_option maxRecDepth 100000 in
theorem pQ (dM da dN a124:Int)(m dB:ae)(k cG:LI)(i:LM):(∀ j d b r,cr dM da dN a124 m dB k cG i j d b=some r→∀ bs:List Nat,SX Tryz.prog (gy 11 (bn dM da dN a124 m dB k cG i r)) (lD bs  r dM da dN a124 m dB k cG i j d b)):=by
 refine cr.partial_correctness _ _ _ _ _ _ _ _ _ _ ?_
 intro cr a j d b r h
 intro n
 refine yB EE 1 h (fun p h=>?_) (fun p h=>?_)
 · refine yX EE 3 25 3 (Dv .i64) h fun e u h=>?_
   refine yB EE 4 h (fun q h=>?_) (fun q h=>?_)
   · refine N8 EE 11 17 (sz:=3) (es:=[.agg [aI 2,aI e,.an]]) (es' := [.agg [aI 2,aI e,.lit []]]) (by kernel_rfl) (by kernel_rfl) rfl ?_
     refine yB EE 2 h (fun s h=>?_) (fun s h=>?_)
     · cases h
       exact za EE 8 n (.bm []) [0,1,2,3,4,5,6,7,8,9,10,16,14] (.pure pv) (us (us (us (uo (oS 16 d.length) (us (us (us (us (us (us (uo (oF i a124 14 b.length) aW))))))))))) (ua (oT d) (ua (oT b) ah))
     · obtain⟨t,h⟩:=kY h
       refine qE EE 12 (fun S=>vg Tryz.prog S 80 (.dJ 10) (aI a124) false) (fun S=>.val (.aj 14 0 b.length) S) (by kernel_rfl) (by kernel_rfl) (Hq (g:=(iW ai)) (l:=i) (c:=a124) (z:=.an) (by kernel_rfl) (by kernel_rfl) (of_decide_eq_true t)) ?_
       refine P0 2 14 18 19 b (Term.mk 2 e ([]:LT)) h fun h=>?_
       obtain⟨o,h⟩:=kY h
       have o:=of_decide_eq_true o
       refine eo EE 0 (fun S=>EO Tryz.prog S 80 (.dJ 10) (aI a124) (.aj 19 0 ((b++[(Term.mk 2 e ([]:LT))]).length))) (fun S=>.skip (S.set 10 (oF i a124 19 ((b++[(Term.mk 2 e ([]:LT))]).length)))) (by kernel_rfl) (by kernel_rfl) (Hr (g:=(iW ai)) (l:=i) (c:=a124) (z:=.an) (V:=.aj 14 0 b.length) (by kernel_rfl) (by kernel_rfl) (by kernel_rfl) o) ?_
       refine Yn 6 16 20 21 d h fun h=>?_
       refine QP 0 21 h fun x w h=>?_
       refine NX 0 21 (Term.mk 2 e ([]:LT)) h fun y h=>?_
       refine yI EE 8 h fun A h=>?_
       exact abT EE qk 2 [[3,2,12,1,13,14]] [11,2,1,0,3,4,5,6,7,8,9,10,21,19] [(16,21),(14,19)] 22 n [[(3,aP 11),(2,aP 2),(12,aN cG),(1,aP 1),(13,aI (cG.length:Int)),(14,aI (j+1))]] [(11,oY 0),(2,oI da),(1,oP 9),(0,oW 3 4 5 6 7 8 dM),(3,oS 21 ((d++[(Term.mk 0 0 ([]:LT))]).length)),(4,oN),(5,oI dN),(6,oP 9),(7,oI a124),(8,oG m),(9,oQ dB k cG 10),(10,oF i a124 19 ((b++[(Term.mk 2 e ([]:LT))]).length)),(21,oT ((d++[(Term.mk 0 0 ([]:LT))]).set (d.length:Int).toNat (Term.mk 2 e ([]:LT)))),(19,oT (b++[(Term.mk 2 e ([]:LT))]))] (a (j+1) ((d++[(Term.mk 0 0 ([]:LT))]).set (d.length:Int).toNat (Term.mk 2 e ([]:LT))) (b++[(Term.mk 2 e ([]:LT))]) r h n)
   · refine yI EE 9 h fun B h=>?_
     exact KP EE qk 2 [[3,2,12,1,13,14]] [11,2,1,0,3,4,5,6,7,8,9,10,16,14] n (a (j+1) d b r h n)
 · refine zL 6 (dX .i64) k ?_
   exact KP EE qk 2 [[3,2,1,31,32,33]] [11,2,1,0,3,4,5,6,7,8,9,10,16,14] n ((ki dM da dN a124 m dB k cG i) 0 d b r h n)
def cM (dM da dN a124:Int)(d dB:ae)(b cG:LI)(c:LM)(a:Int):Option (Sum TT (Sum TT Unit)):=
 if decide (a<(b.length:Int)) then(dA b a>>=fun e=>dA dB.Cons e>>=fun g=>if du .i64 (da-1) then(eU g.dF (da-1) dB b cG c>>=fun k=>gY b (b.length:Int) a g.dF (da-1) da e dB b cG dM c dN a124 d>>=fun j=>(match j with | (Sum.inl l)=>if du .i64 (a+1) then(cM dM da dN a124 d dB b cG c (a+1)) else none | (Sum.inr (Sum.inl h))=>if du .i64 (a+1) then(cq dM da dN a124 d dB b cG c (a+1) h.2 h.1) else none | (Sum.inr (Sum.inr i))=>some (Sum.inl (i.2,i.1)))) else none) else(some (Sum.inr (Sum.inr ())))
 partial_fixpoint
set_option maxRecDepth 100000 in
theorem pR (dM da dN a124:Int)(e dB:ae)(b cG:LI)(d:LM):(∀ c r,cM dM da dN a124 e dB b cG d c=some r→∀ bs:List Nat,SX Tryz.prog (gy 11 (bn dM da dN a124 e dB b cG d r)) (rL bs  r dM da dN a124 e dB b cG d c)):=by
 refine cM.partial_correctness _ _ _ _ _ _ _ _ _ _ ?_
 intro cM a c r h
 intro g
 refine yB EE 1 h (fun q h=>?_) (fun q h=>?_)
 · refine yX EE 3 25 3 (Dv .i64) h fun l w h=>?_
   refine yX EE 12 22 35 cB h fun i x h=>?_
   refine yI EE 3 h fun y h=>?_
   obtain⟨s,p,h⟩:=bC h
   refine yG EE 0 (mr i.dF (da-1) dB b cG d s p _ 13 [9,10] gw) ?_
   obtain⟨t,k,h⟩:=bC h
   rcases t with z | m | j
   · dsimp only at h
     refine EP EE 2 [1,2,3,7,8,31,32,33,50,51,52,53,54,55,56,57] (iO b (b.length:Int) c i.dF (da-1) da l dB b cG dM d dN a124 e _ k _ 18 [17,13,14,15,11,2,1,12,9,0,10,3,4,5,6,7,8] gw) ?_
     refine iV EE qk 0 16 (bs:=g) (by kernel_rfl) (by kernel_rfl) (by kernel_rfl) (by kernel_rfl) (fun n=>?_)
     refine yI EE 3 h fun A h=>?_
     exact NW EE qk 2 [[3,2,1,31,32,33]] [11,2,1,0,3,4,5,6,7,8,9,10] [] 18 (n::g) (a (c+1) r h (n::g))
   · dsimp only at h
     refine EP EE 2 [1,2,3,7,8,31,32,33,50,51,52,53,54,55,56,57] (iO b (b.length:Int) c i.dF (da-1) da l dB b cG dM d dN a124 e _ k _ 18 [17,13,14,15,11,2,1,12,9,0,10,3,4,5,6,7,8] gw) ?_
     refine iV EE qk 0 16 (bs:=g) (by kernel_rfl) (by kernel_rfl) (by kernel_rfl) (by kernel_rfl) (fun o=>?_)
     refine yI EE 3 h fun B h=>?_
     exact NW EE qk 2 [[3,2,1,31,32,33]] [11,2,1,0,3,4,5,6,7,8,9,10,19,18] [(16,19),(14,18)] 20 (o::g) ((ki dM da dN a124 e dB b cG d) (c+1) m.2 m.1 r h (o::g))
   · dsimp only at h
     refine EP EE 2 [1,2,3,7,8,31,32,33,50,51,52,53,54,55,56,57] (iO b (b.length:Int) c i.dF (da-1) da l dB b cG dM d dN a124 e _ k _ 18 [17,13,14,15,11,2,1,12,9,0,10,3,4,5,6,7,8] gw) ?_
     refine iV EE qk 0 16 (bs:=g) (by kernel_rfl) (by kernel_rfl) (by kernel_rfl) (by kernel_rfl) (fun u=>?_)
     cases h
     exact za EE 2 (u::g) (.bm []) [0,1,2,3,4,5,6,7,8,9,10,19,18] (.pure pv) (us (us (us (uo (oS 19 j.2.length) (us (us (us (us (us (us (uo (oF d a124 18 j.1.length) aW))))))))))) (ua (oT j.2) (ua (oT j.1) ah))
 · cases h
   exact za EE 2 g (.bm []) [0,1,2,3,4,5,6,7,8,9,10] (.pure pv) uT ah
def cO (dM da dN a124:Int)(d dB:ae)(e cG:LI)(b:LM)(a:Int):Option (Sum TT (Sum TT Unit)):=
 if decide (a<(cG.length:Int)) then(dA cG a>>=fun c=>if decide (da=1) then(if decide ((cS b a124).isNone=true) then(if decide ([(Term.mk 2 c ([]:LT))].length≤1048576) then(if decide ((cS b a124).isNone=true) then(if decide ([(Term.mk 0 0 ([]:LT))].length≤1048576) then(dA [(Term.mk 0 0 ([]:LT))] 0>>=fun g=>dA [(Term.mk 0 0 ([]:LT))] 0>>=fun h=>if du .i64 (a+1) then(cr dM da dN a124 d dB e cG b (a+1) ([(Term.mk 0 0 ([]:LT))].set (0:Int).toNat (Term.mk 2 c ([]:LT))) [(Term.mk 2 c ([]:LT))]) else none) else none) else none) else none) else none) else(if du .i64 (a+1) then(cO dM da dN a124 d dB e cG b (a+1)) else none)) else(cM dM da dN a124 d dB e cG b 0)
 partial_fixpoint
set_option maxRecDepth 100000 in
theorem pS (dM da dN a124:Int)(i dB:ae)(e cG:LI)(c:LM):(∀ d r,cO dM da dN a124 i dB e cG c d=some r→∀ bs:List Nat,SX Tryz.prog (gy 11 (bn dM da dN a124 i dB e cG c r)) (iN bs  r dM da dN a124 i dB e cG c d)):=by
 refine cO.partial_correctness _ _ _ _ _ _ _ _ _ _ ?_
 intro cO a d r h
 intro k
 refine yB EE 1 h (fun m h=>?_) (fun m h=>?_)
 · refine yX EE 3 25 3 (Dv .i64) h fun b p h=>?_
   refine yB EE 4 h (fun n h=>?_) (fun n h=>?_)
   · refine N8 EE 11 12 (sz:=3) (es:=[.agg [aI 2,aI b,.an]]) (es' := [.agg [aI 2,aI b,.lit []]]) (by kernel_rfl) (by kernel_rfl) rfl ?_
     obtain⟨o,h⟩:=kY h
     refine qE EE 15 (fun S=>vg Tryz.prog S 80 (.dJ 10) (aI a124) false) (fun S=>.val (.an) S) (by kernel_rfl) (by kernel_rfl) (Ab (g:=(iW ai)) (l:=c) (x:=a124) (by kernel_rfl) (by kernel_rfl) (of_decide_eq_true o)) ?_
     refine NN 2 13 14 (Term.mk 2 b ([]:LT)) h fun h=>?_
     obtain⟨j,h⟩:=kY h
     have j:=of_decide_eq_true j
     refine eo EE 0 (fun S=>EO Tryz.prog S 80 (.dJ 10) (aI a124) (.aj 14 0 [(Term.mk 2 b ([]:LT))].length)) (fun S=>.skip (S.set 10 (oF c a124 14 [(Term.mk 2 b ([]:LT))].length))) (by kernel_rfl) (by kernel_rfl) (DU (g:=(iW ai)) (l:=c) (x:=a124) (z:=.an) (by kernel_rfl) (by kernel_rfl) (by kernel_rfl) j) ?_
     refine acM 6 15 16 h fun h=>?_
     refine QP 0 16 h fun s q h=>?_
     refine NX 0 16 (Term.mk 2 b ([]:LT)) h fun t h=>?_
     refine yI EE 8 h fun u h=>?_
     exact abT EE qk 2 [[3,2,12,1,13,14]] [11,2,1,0,3,4,5,6,7,8,9,10,16,14] [] 17 k [[(3,aP 11),(2,aP 2),(12,aN cG),(1,aP 1),(13,aI (cG.length:Int)),(14,aI (d+1))]] [(11,oY 0),(2,oI da),(1,oP 9),(0,oW 3 4 5 6 7 8 dM),(3,oS 16 [(Term.mk 0 0 ([]:LT))].length),(4,oN),(5,oI dN),(6,oP 9),(7,oI a124),(8,oG i),(9,oQ dB e cG 10),(10,oF c a124 14 [(Term.mk 2 b ([]:LT))].length),(16,oT ([(Term.mk 0 0 ([]:LT))].set (0:Int).toNat (Term.mk 2 b ([]:LT)))),(14,oT [(Term.mk 2 b ([]:LT))])] ((pQ dM da dN a124 i dB e cG c) (d+1) ([(Term.mk 0 0 ([]:LT))].set (0:Int).toNat (Term.mk 2 b ([]:LT))) [(Term.mk 2 b ([]:LT))] r h k)
   · refine yI EE 9 h fun w h=>?_
     exact KP EE qk 2 [[3,2,12,1,13,14]] [11,2,1,0,3,4,5,6,7,8,9,10] k (a (d+1) r h k)
 · refine zL 6 (dX .i64) e ?_
   exact KP EE qk 2 [[3,2,1,31,32,33]] [11,2,1,0,3,4,5,6,7,8,9,10] k ((pR dM da dN a124 i dB e cG c) 0 r h k)
def fp (dM da dN a124:Int)(a dB:ae)(b cG:LI)(c:LM):Option (Sum TT (Sum TT Unit)):=
 cO dM da dN a124 a dB b cG c 0
set_option maxRecDepth 100000 in
theorem iP (dM da dN a124:Int)(a dB:ae)(b cG:LI)(c:LM)(r:(Sum TT (Sum TT Unit)))(h:fp dM da dN a124 a dB b cG c=some r):fI Tryz.prog 73 11 (jb dM da dN a124 a dB b cG c) (bn dM da dN a124 a dB b cG c r):=by
 unfold fp at h
 refine jL EE 11 ?_ (by rcases r with y | y | y<;>exact bc)
 refine AH EE 0 ?_
 refine zL 7 (dX .i64) cG ?_
 exact KP EE qk 2 [[3,2,12,1,13,14]] [11,2,1,0,3,4,5,6,7,8,9,10] [] ((pS dM da dN a124 a dB b cG c) 0 r h [])
def bV (o c p e:Int)(q g:ae)(a h:LI)(s:LT)(i:LM)(b:Int)(j d:LT):Option (Sum Unit (Sum TT (Sum TT Unit))):=
 if decide (b<(a.length:Int)) then(dA a b>>=fun k=>dA g.Cons k>>=fun l=>if du .i64 (c-1) then(eT l.dF (c-1) g a h i e d>>=fun t=>ep a (a.length:Int) b l.dF (c-1) c k g a h o i e p e q d j>>=fun r=>(match r with | (Sum.inl m)=>if du .i64 (b+1) then(bV o c p e q g a h s i (b+1) m.2 m.1) else none | (Sum.inr n)=>some (Sum.inr (Sum.inl (n.2,n.1))))) else none) else(some (Sum.inr (Sum.inr (Sum.inl (j,d)))))
 partial_fixpoint
set_option maxRecDepth 100000 in
theorem jZ (n i o c:Int)(p k:ae)(d l:LI)(u:LT)(j:LM):(∀ g e b r,bV n i o c p k d l u j g e b=some r→∀ bs:List Nat,SX Tryz.prog (gy 11 (bx n i o c p k d l u j r)) (qQ bs  r n i o c p k d l u j g e b)):=by
 refine bV.partial_correctness _ _ _ _ _ _ _ _ _ _ _ ?_
 intro bV a g e b r h
 intro t
 refine yB EE 1 h (fun A h=>?_) (fun A h=>?_)
 · refine yX EE 3 25 3 (Dv .i64) h fun w E h=>?_
   refine yX EE 12 22 35 cB h fun q F h=>?_
   refine yI EE 3 h fun G h=>?_
   obtain⟨B,z,h⟩:=bC h
   refine yG EE 0 (mq q.dF (i-1) k d l j c b B z _ 19 [9,10,15] gw) ?_
   obtain⟨C,s,h⟩:=bC h
   rcases C with x | m
   · dsimp only at h
     refine EP EE 2 [1,2,3,7,8,31,32,33,50,51,52,53,54,55,56,57] (fP d (d.length:Int) g q.dF (i-1) i w k d l n j c o c p b e _ s _ 25 [24,20,21,22,12,2,1,18,9,0,10,3,4,5,6,7,8,19,17] gw) ?_
     refine iV EE qk 0 23 (bs:=t) (by kernel_rfl) (by kernel_rfl) (by kernel_rfl) (by kernel_rfl) (fun y=>?_)
     refine yI EE 3 h fun H h=>?_
     exact NW EE qk 2 [[3,2,1,31,32,33]] [12,2,1,0,3,4,5,6,7,8,9,10,26,25] [(17,26),(15,25)] 27 (y::t) (a (g+1) x.2 x.1 r h (y::t))
   · dsimp only at h
     refine EP EE 2 [1,2,3,7,8,31,32,33,50,51,52,53,54,55,56,57] (fP d (d.length:Int) g q.dF (i-1) i w k d l n j c o c p b e _ s _ 25 [24,20,21,22,12,2,1,18,9,0,10,3,4,5,6,7,8,19,17] gw) ?_
     refine iV EE qk 0 23 (bs:=t) (by kernel_rfl) (by kernel_rfl) (by kernel_rfl) (by kernel_rfl) (fun D=>?_)
     cases h
     exact za EE 2 (D::t) (.bm []) [0,1,2,3,4,5,6,7,8,9,10,26,25] (.pure pv) (us (us (us (uo (oS 26 m.2.length) (us (us (us (us (us (us (uo (oF j c 25 m.1.length) aW))))))))))) (ua (oT m.2) (ua (oT m.1) ah))
 · cases h
   exact za EE 2 t (.bm []) [0,1,2,3,4,5,6,7,8,9,10,17,15] (.pure pv) (us (us (us (uo (oS 17 e.length) (us (us (us (us (us (us (uo (oF j c 15 b.length) aW))))))))))) (ua (oT e) (ua (oT b) ah))
def bW (j i k d:Int)(l m:ae)(n e:LI)(o:LT)(g:LM)(b:Int)(a c:LT):Option (Sum Unit (Sum TT (Sum TT Unit))):=
 if decide (b<(e.length:Int)) then(dA e b>>=fun h=>if decide (i=1) then(if decide ((a.length:Int)=100) then(some (Sum.inr (Sum.inl (a,c)))) else(if decide ((cS g d).isNone=true) then(if decide (c.length+[(Term.mk 2 h ([]:LT))].length≤1048576) then(if decide ((cS g d).isNone=true) then(if decide (a.length+[(Term.mk 0 0 ([]:LT))].length≤1048576) then(dA (a++[(Term.mk 0 0 ([]:LT))]) a.length>>=fun p=>dA (a++[(Term.mk 0 0 ([]:LT))]) a.length>>=fun q=>if du .i64 (b+1) then(bW j i k d l m n e o g (b+1) ((a++[(Term.mk 0 0 ([]:LT))]).set (a.length:Int).toNat (Term.mk 2 h ([]:LT))) (c++[(Term.mk 2 h ([]:LT))])) else none) else none) else none) else none) else none)) else(if du .i64 (b+1) then(bW j i k d l m n e o g (b+1) a c) else none)) else(bV j i k d l m n e o g 0 a c)
 partial_fixpoint
set_option maxRecDepth 100000 in
theorem oH (o p q i:Int)(s t:ae)(n m:LI)(x:LT)(j:LM):(∀ k d b r,bW o p q i s t n m x j k d b=some r→∀ bs:List Nat,SX Tryz.prog (gy 11 (bx o p q i s t n m x j r)) (kX bs  r o p q i s t n m x j k d b)):=by
 refine bW.partial_correctness _ _ _ _ _ _ _ _ _ _ _ ?_
 intro bW a k d b r h
 intro u
 refine yB EE 1 h (fun y h=>?_) (fun y h=>?_)
 · refine yX EE 3 25 3 (Dv .i64) h fun e D h=>?_
   refine yB EE 4 h (fun A h=>?_) (fun A h=>?_)
   · refine N8 EE 11 18 (sz:=3) (es:=[.agg [aI 2,aI e,.an]]) (es' := [.agg [aI 2,aI e,.lit []]]) (by kernel_rfl) (by kernel_rfl) rfl ?_
     refine yB EE 2 h (fun B h=>?_) (fun B h=>?_)
     · cases h
       exact za EE 8 u (.bm []) [0,1,2,3,4,5,6,7,8,9,10,17,15] (.pure pv) (us (us (us (uo (oS 17 d.length) (us (us (us (us (us (us (uo (oF j i 15 b.length) aW))))))))))) (ua (oT d) (ua (oT b) ah))
     · obtain⟨C,h⟩:=kY h
       refine qE EE 12 (fun S=>vg Tryz.prog S 80 (.dJ 10) (aI i) false) (fun S=>.val (.aj 15 0 b.length) S) (by kernel_rfl) (by kernel_rfl) (Hq (g:=(iW ai)) (l:=j) (c:=i) (z:=.an) (by kernel_rfl) (by kernel_rfl) (of_decide_eq_true C)) ?_
       refine P0 2 15 19 20 b (Term.mk 2 e ([]:LT)) h fun h=>?_
       obtain⟨w,h⟩:=kY h
       have w:=of_decide_eq_true w
       refine eo EE 0 (fun S=>EO Tryz.prog S 80 (.dJ 10) (aI i) (.aj 20 0 ((b++[(Term.mk 2 e ([]:LT))]).length))) (fun S=>.skip (S.set 10 (oF j i 20 ((b++[(Term.mk 2 e ([]:LT))]).length)))) (by kernel_rfl) (by kernel_rfl) (Hr (g:=(iW ai)) (l:=j) (c:=i) (z:=.an) (V:=.aj 15 0 b.length) (by kernel_rfl) (by kernel_rfl) (by kernel_rfl) w) ?_
       refine Yn 6 17 21 22 d h fun h=>?_
       refine QP 0 22 h fun F E h=>?_
       refine NX 0 22 (Term.mk 2 e ([]:LT)) h fun G h=>?_
       refine yI EE 8 h fun H h=>?_
       exact abT EE qk 2 [[3,2,12,1,13,14]] [12,2,1,0,3,4,5,6,7,8,9,10,22,20] [(17,22),(15,20)] 23 u [[(3,aP 12),(2,aP 2),(12,aN m),(1,aP 1),(13,aI (m.length:Int)),(14,aI (k+1))]] [(12,oY 0),(2,oI p),(1,oP 9),(0,oW 3 4 5 6 7 8 o),(3,oS 22 ((d++[(Term.mk 0 0 ([]:LT))]).length)),(4,oN),(5,oI q),(6,oP 9),(7,oI i),(8,oG s),(9,oQ t n m 10),(10,oF j i 20 ((b++[(Term.mk 2 e ([]:LT))]).length)),(22,oT ((d++[(Term.mk 0 0 ([]:LT))]).set (d.length:Int).toNat (Term.mk 2 e ([]:LT)))),(20,oT (b++[(Term.mk 2 e ([]:LT))]))] (a (k+1) ((d++[(Term.mk 0 0 ([]:LT))]).set (d.length:Int).toNat (Term.mk 2 e ([]:LT))) (b++[(Term.mk 2 e ([]:LT))]) r h u)
   · refine yI EE 9 h fun I h=>?_
     exact KP EE qk 2 [[3,2,12,1,13,14]] [12,2,1,0,3,4,5,6,7,8,9,10,17,15] u (a (k+1) d b r h u)
 · refine zL 6 (dX .i64) n ?_
   exact KP EE qk 2 [[3,2,1,31,32,33]] [12,2,1,0,3,4,5,6,7,8,9,10,17,15] u ((jZ o p q i s t n m x j) 0 d b r h u)
def cC (h c i j:Int)(k d:ae)(b e:LI)(l:LT)(g:LM)(a:Int):Option (Sum Unit (Sum TT (Sum TT Unit))):=
 if decide (a<(b.length:Int)) then(dA b a>>=fun m=>dA d.Cons m>>=fun n=>if du .i64 (c-1) then(eU n.dF (c-1) d b e g>>=fun r=>gZ b (b.length:Int) a n.dF (c-1) c m d b e h g i j k l>>=fun q=>(match q with | (Sum.inl s)=>if du .i64 (a+1) then(cC h c i j k d b e l g (a+1)) else none | (Sum.inr (Sum.inl t))=>some (Sum.inl ()) | (Sum.inr (Sum.inr (Sum.inl o)))=>if du .i64 (a+1) then(bV h c i j k d b e l g (a+1) o.2 o.1) else none | (Sum.inr (Sum.inr (Sum.inr p)))=>some (Sum.inr (Sum.inl (p.2,p.1))))) else none) else(some (Sum.inr (Sum.inr (Sum.inr ()))))
 partial_fixpoint
set_option maxRecDepth 100000 in
theorem oJ (l c m i:Int)(n j:ae)(b k:LI)(e:LT)(g:LM):(∀ d r,cC l c m i n j b k e g d=some r→∀ bs:List Nat,SX Tryz.prog (gy 11 (bx l c m i n j b k e g r)) (qS bs  r l c m i n j b k e g d)):=by
 refine cC.partial_correctness _ _ _ _ _ _ _ _ _ _ _ ?_
 intro cC a d r h
 intro p
 refine yB EE 1 h (fun z h=>?_) (fun z h=>?_)
 · refine yX EE 3 25 3 (Dv .i64) h fun s E h=>?_
   refine yX EE 12 22 35 cB h fun q F h=>?_
   refine yI EE 3 h fun G h=>?_
   obtain⟨A,y,h⟩:=bC h
   refine yG EE 0 (mr q.dF (c-1) j b k g A y _ 14 [9,10] gw) ?_
   obtain⟨B,o,h⟩:=bC h
   rcases B with H | I | u | t
   · dsimp only at h
     refine EP EE 2 [1,2,3,7,8,31,32,33,50,51,52,53,54,55,56,57] (fQ b (b.length:Int) d q.dF (c-1) c s j b k l g m i n e _ o _ 19 [18,14,15,16,12,2,1,13,9,0,10,3,4,5,6,7,8,11] gw) ?_
     refine iV EE qk 0 17 (bs:=p) (by kernel_rfl) (by kernel_rfl) (by kernel_rfl) (by kernel_rfl) (fun w=>?_)
     refine yI EE 3 h fun J h=>?_
     exact NW EE qk 2 [[3,2,1,31,32,33]] [12,2,1,0,3,4,5,6,7,8,9,10,19] [(11,19)] 20 (w::p) (a (d+1) r h (w::p))
   · dsimp only at h
     refine EP EE 2 [1,2,3,7,8,31,32,33,50,51,52,53,54,55,56,57] (fQ b (b.length:Int) d q.dF (c-1) c s j b k l g m i n e _ o _ 19 [18,14,15,16,12,2,1,13,9,0,10,3,4,5,6,7,8,11] gw) ?_
     refine iV EE qk 0 17 (bs:=p) (by kernel_rfl) (by kernel_rfl) (by kernel_rfl) (by kernel_rfl) (fun C=>?_)
     cases h
     exact za EE 2 (C::p) (.bm []) [0,1,2,3,4,5,6,7,8,9,10,19] (.pure pv) (us (us (us (uo (oS 19 e.length) uT)))) (ua (oT e) ah)
   · dsimp only at h
     refine EP EE 2 [1,2,3,7,8,31,32,33,50,51,52,53,54,55,56,57] (fQ b (b.length:Int) d q.dF (c-1) c s j b k l g m i n e _ o _ 19 [18,14,15,16,12,2,1,13,9,0,10,3,4,5,6,7,8,11] gw) ?_
     refine iV EE qk 0 17 (bs:=p) (by kernel_rfl) (by kernel_rfl) (by kernel_rfl) (by kernel_rfl) (fun x=>?_)
     refine yI EE 3 h fun K h=>?_
     exact NW EE qk 2 [[3,2,1,31,32,33]] [12,2,1,0,3,4,5,6,7,8,9,10,20,19] [(17,20),(15,19)] 21 (x::p) ((jZ l c m i n j b k e g) (d+1) u.2 u.1 r h (x::p))
   · dsimp only at h
     refine EP EE 2 [1,2,3,7,8,31,32,33,50,51,52,53,54,55,56,57] (fQ b (b.length:Int) d q.dF (c-1) c s j b k l g m i n e _ o _ 19 [18,14,15,16,12,2,1,13,9,0,10,3,4,5,6,7,8,11] gw) ?_
     refine iV EE qk 0 17 (bs:=p) (by kernel_rfl) (by kernel_rfl) (by kernel_rfl) (by kernel_rfl) (fun D=>?_)
     cases h
     exact za EE 2 (D::p) (.bm []) [0,1,2,3,4,5,6,7,8,9,10,20,19] (.pure pv) (us (us (us (uo (oS 20 t.2.length) (us (us (us (us (us (us (uo (oF g i 19 t.1.length) aW))))))))))) (ua (oT t.2) (ua (oT t.1) ah))
 · cases h
   exact za EE 2 p (.bm []) [0,1,2,3,4,5,6,7,8,9,10,11] (.pure pv) uT (ua (oT e) ah)
def cD (i h j c:Int)(k l:ae)(m d:LI)(a:LT)(e:LM)(b:Int):Option (Sum Unit (Sum TT (Sum TT Unit))):=
 if decide (b<(d.length:Int)) then(dA d b>>=fun g=>if decide (h=1) then(if decide ((a.length:Int)=100) then(some (Sum.inl ())) else(if decide ((cS e c).isNone=true) then(if decide ([(Term.mk 2 g ([]:LT))].length≤1048576) then(if decide ((cS e c).isNone=true) then(if decide (a.length+[(Term.mk 0 0 ([]:LT))].length≤1048576) then(dA (a++[(Term.mk 0 0 ([]:LT))]) a.length>>=fun n=>dA (a++[(Term.mk 0 0 ([]:LT))]) a.length>>=fun o=>if du .i64 (b+1) then(bW i h j c k l m d a e (b+1) ((a++[(Term.mk 0 0 ([]:LT))]).set (a.length:Int).toNat (Term.mk 2 g ([]:LT))) [(Term.mk 2 g ([]:LT))]) else none) else none) else none) else none) else none)) else(if du .i64 (b+1) then(cD i h j c k l m d a e (b+1)) else none)) else(cC i h j c k l m d a e 0)
 partial_fixpoint
set_option maxRecDepth 100000 in
theorem oK (m n o c:Int)(p q:ae)(k j:LI)(d:LT)(e:LM):(∀ i r,cD m n o c p q k j d e i=some r→∀ bs:List Nat,SX Tryz.prog (gy 11 (bx m n o c p q k j d e r)) (im bs  r m n o c p q k j d e i)):=by
 refine cD.partial_correctness _ _ _ _ _ _ _ _ _ _ _ ?_
 intro cD a i r h
 intro s
 refine yB EE 1 h (fun u h=>?_) (fun u h=>?_)
 · refine yX EE 3 25 3 (Dv .i64) h fun b B h=>?_
   refine yB EE 4 h (fun w h=>?_) (fun w h=>?_)
   · refine N8 EE 11 13 (sz:=3) (es:=[.agg [aI 2,aI b,.an]]) (es' := [.agg [aI 2,aI b,.lit []]]) (by kernel_rfl) (by kernel_rfl) rfl ?_
     refine yB EE 2 h (fun y h=>?_) (fun y h=>?_)
     · cases h
       exact za EE 8 s (.bm []) [0,1,2,3,4,5,6,7,8,9,10,11] (.pure pv) uT (ua (oT d) ah)
     · obtain⟨A,h⟩:=kY h
       refine qE EE 12 (fun S=>vg Tryz.prog S 80 (.dJ 10) (aI c) false) (fun S=>.val (.an) S) (by kernel_rfl) (by kernel_rfl) (Ab (g:=(iW ai)) (l:=e) (x:=c) (by kernel_rfl) (by kernel_rfl) (of_decide_eq_true A)) ?_
       refine NN 2 14 15 (Term.mk 2 b ([]:LT)) h fun h=>?_
       obtain⟨t,h⟩:=kY h
       have t:=of_decide_eq_true t
       refine eo EE 0 (fun S=>EO Tryz.prog S 80 (.dJ 10) (aI c) (.aj 15 0 [(Term.mk 2 b ([]:LT))].length)) (fun S=>.skip (S.set 10 (oF e c 15 [(Term.mk 2 b ([]:LT))].length))) (by kernel_rfl) (by kernel_rfl) (DU (g:=(iW ai)) (l:=e) (x:=c) (z:=.an) (by kernel_rfl) (by kernel_rfl) (by kernel_rfl) t) ?_
       refine Yn 6 11 16 17 d h fun h=>?_
       refine QP 0 17 h fun D C h=>?_
       refine NX 0 17 (Term.mk 2 b ([]:LT)) h fun E h=>?_
       refine yI EE 8 h fun F h=>?_
       exact abT EE qk 2 [[3,2,12,1,13,14]] [12,2,1,0,3,4,5,6,7,8,9,10,17,15] [] 18 s [[(3,aP 12),(2,aP 2),(12,aN j),(1,aP 1),(13,aI (j.length:Int)),(14,aI (i+1))]] [(12,oY 0),(2,oI n),(1,oP 9),(0,oW 3 4 5 6 7 8 m),(3,oS 17 ((d++[(Term.mk 0 0 ([]:LT))]).length)),(4,oN),(5,oI o),(6,oP 9),(7,oI c),(8,oG p),(9,oQ q k j 10),(10,oF e c 15 [(Term.mk 2 b ([]:LT))].length),(17,oT ((d++[(Term.mk 0 0 ([]:LT))]).set (d.length:Int).toNat (Term.mk 2 b ([]:LT)))),(15,oT [(Term.mk 2 b ([]:LT))])] ((oH m n o c p q k j d e) (i+1) ((d++[(Term.mk 0 0 ([]:LT))]).set (d.length:Int).toNat (Term.mk 2 b ([]:LT))) [(Term.mk 2 b ([]:LT))] r h s)
   · refine yI EE 9 h fun G h=>?_
     exact KP EE qk 2 [[3,2,12,1,13,14]] [12,2,1,0,3,4,5,6,7,8,9,10,11] s (a (i+1) r h s)
 · refine zL 6 (dX .i64) k ?_
   exact KP EE qk 2 [[3,2,1,31,32,33]] [12,2,1,0,3,4,5,6,7,8,9,10,11] s ((oJ m n o c p q k j d e) 0 r h s)
def eY (a b c d:Int)(e g:ae)(h i:LI)(j:LT)(k:LM):Option (Sum Unit (Sum TT (Sum TT Unit))):=
 cD a b c d e g h i j k 0
set_option maxRecDepth 100000 in
theorem fA (b c d e:Int)(g i:ae)(j a:LI)(k:LT)(l:LM)(r:(Sum Unit (Sum TT (Sum TT Unit))))(h:eY b c d e g i j a k l=some r):fI Tryz.prog 73 11 (iM b c d e g i j a k l) (bx b c d e g i j a k l r):=by
 unfold eY at h
 refine jL EE 12 ?_ (by rcases r with y | y | y | y<;>exact bc)
 refine AH EE 0 ?_
 refine zL 7 (dX .i64) a ?_
 exact KP EE qk 2 [[3,2,12,1,13,14]] [12,2,1,0,3,4,5,6,7,8,9,10,11] [] ((oK b c d e g i j a k l) 0 r h [])
def ec (a0:ae)(h a2:LI)(a3 a:Int)(b:LT)(c:LM):Option (LT×Int):=
 if decide (a≤a3) then(eS a a0 h a2 c>>=fun i=>eY a3 a 0 a a0 a0 h a2 b c>>=fun g=>(match g with | (Sum.inl j)=>some (([]:LT),3) | (Sum.inr (Sum.inl k))=>some (([]:LT),3) | (Sum.inr (Sum.inr (Sum.inl d)))=>if du .i64 (a+1) then(ec a0 h a2 a3 (a+1) d.1 (c++[(a,d.2)])) else none | (Sum.inr (Sum.inr (Sum.inr l)))=>if du .i64 (a+1) then(ec a0 h a2 a3 (a+1) b c) else none)) else(AL b a0>>=fun e=>if decide (e.length=b.length) then(some (e,0)) else none)
 partial_fixpoint
set_option maxRecDepth 100000 in
theorem ud (a0:ae)(u a2:LI)(a3:Int):(∀ a e d r,ec a0 u a2 a3 a e d=some r→∀ bs:List Nat,SX Tryz.prog (gy 0 (fN r)) (wu bs  r a0 u a2 a3 a e d)):=by
 refine ec.partial_correctness _ _ _ _ _ ?_
 intro ec b a e d r h
 intro j
 refine yB EE 3 h (fun w h=>?_) (fun w h=>?_)
 · obtain⟨x,s,h⟩:=bC h
   refine yG EE 4 (mo a a0 u a2 d x s _ 15 [4,3] gw) ?_
   obtain⟨z,i,h⟩:=bC h
   rcases z with C | D | m | E
   · dsimp only at h
     refine EP EE 1 [3,4,8,9,10,10,11,11,11,12,13,13,13,61,62,63,64,65,66,67,68,69,70,71,72,73,74,75,76,77,78,79,79,80,81,82,83,83,84] (fA a3 a 0 a a0 a0 u a2 e d _ i _ 19 [18,15,16,6,1,2,5,14,0,4,3,12] gw) ?_
     refine iV EE qk 0 17 (bs:=j) (by kernel_rfl) (by kernel_rfl) (by kernel_rfl) (by kernel_rfl) (fun A=>?_)
     cases h
     exact za EE 2 (A::j) (.bm [.an,aI 3]) [] (ie.vF (dK.cons .an (dK.cons (.pure pv) dK.nil))) aW ah
   · dsimp only at h
     refine EP EE 1 [3,4,8,9,10,10,11,11,11,12,13,13,13,61,62,63,64,65,66,67,68,69,70,71,72,73,74,75,76,77,78,79,79,80,81,82,83,83,84] (fA a3 a 0 a a0 a0 u a2 e d _ i _ 19 [18,15,16,6,1,2,5,14,0,4,3,12] gw) ?_
     refine iV EE qk 0 17 (bs:=j) (by kernel_rfl) (by kernel_rfl) (by kernel_rfl) (by kernel_rfl) (fun B=>?_)
     cases h
     exact za EE 2 (B::j) (.bm [.an,aI 3]) [] (ie.vF (dK.cons .an (dK.cons (.pure pv) dK.nil))) aW ah
   · dsimp only at h
     refine EP EE 1 [3,4,8,9,10,10,11,11,11,12,13,13,13,61,62,63,64,65,66,67,68,69,70,71,72,73,74,75,76,77,78,79,79,80,81,82,83,83,84] (fA a3 a 0 a a0 a0 u a2 e d _ i _ 19 [18,15,16,6,1,2,5,14,0,4,3,12] gw) ?_
     refine iV EE qk 0 17 (bs:=j) (by kernel_rfl) (by kernel_rfl) (by kernel_rfl) (by kernel_rfl) (fun n=>?_)
     refine yI EE 10 h fun F h=>?_
     refine Qy EE 2 20 3 (sz:=3) (len:=m.2.length) (es:=(m.2.map ai)) (k:=.i64) (g:=(iW ai)) (l:=d) (c:=a) (y:=m.2) (by kernel_rfl) (by kernel_rfl) rfl (by kernel_rfl) (by kernel_rfl) (by first | rfl | (simp;done) | omega | (simp;omega)) (by kernel_rfl) ?_
     exact NW EE qk 0 [[11,8,9,10,12,4,3]] [6,1,2,5,21,0,19,4,3] [(14,21),(12,19)] 22 (n::j) (b (a+1) m.1 (d++[(a,m.2)]) r h (n::j))
   · dsimp only at h
     refine EP EE 1 [3,4,8,9,10,10,11,11,11,12,13,13,13,61,62,63,64,65,66,67,68,69,70,71,72,73,74,75,76,77,78,79,79,80,81,82,83,83,84] (fA a3 a 0 a a0 a0 u a2 e d _ i _ 19 [18,15,16,6,1,2,5,14,0,4,3,12] gw) ?_
     refine iV EE qk 0 17 (bs:=j) (by kernel_rfl) (by kernel_rfl) (by kernel_rfl) (by kernel_rfl) (fun o=>?_)
     refine yI EE 10 h fun G h=>?_
     exact NW EE qk 2 [[11,8,9,10,12,4,3]] [6,1,2,5,20,0,19,4,3] [(14,20),(12,19)] 21 (o::j) (b (a+1) e d r h (o::j))
 · obtain⟨p,t,h⟩:=bC h
   obtain⟨q,h⟩:=kY h
   have q:=of_decide_eq_true q
   refine yG EE 3 (GB e a0 p t _ 15 [12,0] gw) ?_
   cases h
   exact za EE 5 j (.bm [.aj 12 0 e.length,aI 0]) [] (ie.vF (dK.cons (ie.Ap (sz:=3) (es:=(p.map ai)) (by decide) (by kernel_rfl) (by first | rfl | (simp;done) | omega | (simp;omega)) (by simp[aq,br,bH,aD,-List.map_append,-List.map_drop,-List.map_take,-List.map_set,-List.map_replicate])) (dK.cons (.pure pv) dK.nil))) aW ah
def ed (a0:ae)(e a2:LI)(a3 a:Int)(b:LM):Option (LT×Int):=
 if decide (a≤a3) then(eS a a0 e a2 b>>=fun g=>fp a3 a 0 a a0 a0 e a2 b>>=fun d=>(match d with | (Sum.inl h)=>some (([]:LT),3) | (Sum.inr (Sum.inl c))=>if du .i64 (a+1) then(ec a0 e a2 a3 (a+1) c.1 (b++[(a,c.2)])) else none | (Sum.inr (Sum.inr i))=>if du .i64 (a+1) then(ed a0 e a2 a3 (a+1) b) else none)) else(Eb a0>>=fun j=>some (([]:LT),0))
 partial_fixpoint
set_option maxRecDepth 100000 in
theorem ue (a0:ae)(q a2:LI)(a3:Int)(d:LM):(∀ a r,ed a0 q a2 a3 a d=some r→∀ bs:List Nat,SX Tryz.prog (gy 0 (fN r)) (rE bs  r a0 q a2 a3 a d)):=by
 refine ed.partial_correctness _ _ _ _ _ _ ?_
 intro ed b a r h
 intro i
 refine yB EE 3 h (fun s h=>?_) (fun s h=>?_)
 · obtain⟨t,o,h⟩:=bC h
   refine yG EE 4 (mo a a0 q a2 d t o _ 8 [4,3] gw) ?_
   obtain⟨u,j,h⟩:=bC h
   rcases u with z | e | A
   · dsimp only at h
     refine EP EE 1 [3,4,8,9,10,10,11,11,11,12,13,13,13,61,62,63,64,65,66,67,68,69,70,71,72,73,74,75,76,77,78,79,79,80,81,82,83,83,84] (iP a3 a 0 a a0 a0 q a2 d _ j _ 12 [11,8,9,6,1,2,5,7,0,4,3] gw) ?_
     refine iV EE qk 0 10 (bs:=i) (by kernel_rfl) (by kernel_rfl) (by kernel_rfl) (by kernel_rfl) (fun w=>?_)
     cases h
     exact za EE 2 (w::i) (.bm [.an,aI 3]) [] (ie.vF (dK.cons .an (dK.cons (.pure pv) dK.nil))) aW ah
   · dsimp only at h
     refine EP EE 1 [3,4,8,9,10,10,11,11,11,12,13,13,13,61,62,63,64,65,66,67,68,69,70,71,72,73,74,75,76,77,78,79,79,80,81,82,83,83,84] (iP a3 a 0 a a0 a0 q a2 d _ j _ 12 [11,8,9,6,1,2,5,7,0,4,3] gw) ?_
     refine iV EE qk 0 10 (bs:=i) (by kernel_rfl) (by kernel_rfl) (by kernel_rfl) (by kernel_rfl) (fun m=>?_)
     refine yI EE 10 h fun B h=>?_
     refine Qy EE 2 13 3 (sz:=3) (len:=e.2.length) (es:=(e.2.map ai)) (k:=.i64) (g:=(iW ai)) (l:=d) (c:=a) (y:=e.2) (by kernel_rfl) (by kernel_rfl) rfl (by kernel_rfl) (by kernel_rfl) (by first | rfl | (simp;done) | omega | (simp;omega)) (by kernel_rfl) ?_
     exact KP EE qk 0 [[11,8,9,10,12,4,3]] [6,1,2,5,14,0,12,4,3] (m::i) ((ud a0 q a2 a3) (a+1) e.1 (d++[(a,e.2)]) r h (m::i))
   · dsimp only at h
     refine EP EE 1 [3,4,8,9,10,10,11,11,11,12,13,13,13,61,62,63,64,65,66,67,68,69,70,71,72,73,74,75,76,77,78,79,79,80,81,82,83,83,84] (iP a3 a 0 a a0 a0 q a2 d _ j _ 12 [11,8,9,6,1,2,5,7,0,4,3] gw) ?_
     refine iV EE qk 0 10 (bs:=i) (by kernel_rfl) (by kernel_rfl) (by kernel_rfl) (by kernel_rfl) (fun n=>?_)
     refine yI EE 10 h fun C h=>?_
     exact NW EE qk 2 [[11,8,9,10,12,4,3]] [6,1,2,5,12,0,4,3] [(7,12)] 13 (n::i) (b (a+1) r h (n::i))
 · obtain⟨x,p,h⟩:=bC h
   refine yG EE 3 (Ib a0 x p _ 8 [0] gw) ?_
   cases h
   exact za EE 5 i (.bm [.an,aI 0]) [] (ie.vF (dK.cons .an (dK.cons (.pure pv) dK.nil))) aW ah
def je (a0:ae)(g a2:LI)(a3:Int):Option (LT×Int):=
 fF a0>>=fun a=>if(!decide (a=0)) then(some (([]:LT),2)) else(lK g>>=fun b=>if b then(lK a2>>=fun c=>if c then(if decide ((a2.length:Int)>8) then(some (([]:LT),2)) else(if decide (a3<0) then(some (([]:LT),2)) else(if decide (a3>6) then(some (([]:LT),2)) else(dD g a0>>=fun d=>if d then(some (([]:LT),2)) else(dE a2>>=fun e=>if e then(some (([]:LT),2)) else(ed a0 g a2 a3 1 [])))))) else(some (([]:LT),2))) else(some (([]:LT),2)))
set_option maxRecDepth 100000 in
theorem wv (a0:ae)(m a2:LI)(a3:Int)(r:(LT×Int))(h:je a0 m a2 a3=some r):fI Tryz.prog 6 0 (nL a0 m a2 a3) (fN r):=by
 unfold je at h
 refine jL EE 0 ?_
 refine AH EE 0 ?_
 refine yC EE 6 (te a0) h fun n h=>?_
 refine yB EE 0 h (fun i h=>?_) (fun i h=>?_)
 · cases h
   exact za EE 27 [] (.bm [.an,aI 2]) [] (ie.vF (dK.cons .an (dK.cons (.pure pv) dK.nil))) aW ah
 · refine sK EE 2 (tU m) h (fun h=>?_) (fun h=>?_)
   · refine sK EE 4 (tU a2) h (fun h=>?_) (fun h=>?_)
     · refine zL 4 (dX .i64) a2 ?_
       refine yB EE 0 h (fun j h=>?_) (fun j h=>?_)
       · cases h
         exact za EE 13 [] (.bm [.an,aI 2]) [] (ie.vF (dK.cons .an (dK.cons (.pure pv) dK.nil))) aW ah
       · refine yB EE 3 h (fun k h=>?_) (fun k h=>?_)
         · cases h
           exact za EE 9 [] (.bm [.an,aI 2]) [] (ie.vF (dK.cons .an (dK.cons (.pure pv) dK.nil))) aW ah
         · refine yB EE 3 h (fun l h=>?_) (fun l h=>?_)
           · cases h
             exact za EE 5 [] (.bm [.an,aI 2]) [] (ie.vF (dK.cons .an (dK.cons (.pure pv) dK.nil))) aW ah
           · obtain⟨a,e,h⟩:=bC h
             refine yG EE 4 (v:=aB a) (mU m a0 a e _ 3 [0] gw) ?_
             cases c:a with
             | true=>
               have h:=wy c h
               cases h
               exact za EE 8 [] (.bm [.an,aI 2]) [] (ie.vF (dK.cons .an (dK.cons (.pure pv) dK.nil))) aW ah
             | false=>
               have h:=wA c h
               obtain⟨b,g,h⟩:=bC h
               refine KW EE 2 (v:=aB b) (mV a2 b g _ 3 [] gw) ?_
               cases d:b with
               | true=>
                 have h:=wy d h
                 cases h
                 exact za EE 5 [] (.bm [.an,aI 2]) [] (ie.vF (dK.cons .an (dK.cons (.pure pv) dK.nil))) aW ah
               | false=>
                 have h:=wA d h
                 exact KP EE qk 16 [[11,8,9,10,12,4,3]] [6,1,2,5,7,0,4,3] [] ((ue a0 m a2 a3 []) 1 r h [])
     · cases h
       exact za EE 19 [] (.bm [.an,aI 2]) [] (ie.vF (dK.cons .an (dK.cons (.pure pv) dK.nil))) aW ah
   · cases h
     exact za EE 24 [] (.bm [.an,aI 2]) [] (ie.vF (dK.cons .an (dK.cons (.pure pv) dK.nil))) aW ah
def jo (a0:ae)(a a2:LI)(a3:Int):Option (LT×Int):=je a0 a a2 a3
theorem zI (a0:ae)(a a2:LI)(a3:Int)(r:(LT×Int))(h:jo a0 a a2 a3=some r):∀ S,dc Tryz.prog 6 [aG a0,aN a,aN a2,aI a3] S fun b c=>b=.ret (.bm [aT r.1,aI r.2])∧c=S:=
 dc.frame (by simp[aq,br,bH,aD]) (by simp[aq,br,bH,aD]) ((wv a0 a a2 a3 r h af.empty 0 [] gw).mono fun _ _ q=>q.1)
end
end Go.Eng

/- Functions of the program lifted to data, each with its contract; no conditions. -/
import Derived.Test.YtnangdjonghnaaaGreatVLfA
import Derived.KernelRfl
set_option linter.unusedVariables false
set_option linter.unusedSimpArgs false
namespace Go.Eng
open Go.Proofs
set_option synthInstance.maxSize 100000
set_option synthInstance.maxHeartbeats 400000
noncomputable section
@[simp] noncomputable def pN := fun a20 a21 a22 b a24 a25 a qD (o:NM)=>(([aP (o 0),aI a20,aK a21],[oR a22 b (o 1) (a.length+(0+qD)) a24 a25,oZ a [] qD]):TC)
@[simp] noncomputable def kg := fun a22 b a24 a25 a qD (r:(Sum Unit (Int×Nat×LT))) (o:NM)=>(match r with | (Sum.inl y)=>(.bm [],sm [oR a22 b (o 1) (a.length+(0+qD)) a24 true,oZ a [] qD],[]) | (Sum.inr y)=>(.bm [],sm [oR a22 b (o 1) (a.length+(1+y.2.1)) y.1 a25,oZ a [.aj (o 2) 0 y.2.2.length] y.2.1],[oT y.2.2]):TB)
@[simp] noncomputable def eB := fun a33 c a35 d a37 e a39 f a b (o:NM)=>(([aP (o 0),aI a33,aI c,aT a35,aI d],[oR a37 e (o 1) (a.length+(0+b)) a39 f,oZ a [] b]):TC)
@[simp] noncomputable def cx := fun a37 b a39 a c (r:(Sum Bool (Int×Bool×Nat×LT))) (o:NM)=>(match r with | (Sum.inl y)=>(.bm [],sm [oR a37 b (o 1) (a.length+(0+c)) a39 y,oZ a [] c],[]) | (Sum.inr y)=>(.bm [],sm [oR a37 b (o 1) (a.length+(1+y.2.2.1)) y.1 y.2.1,oZ a [.aj (o 2) 0 y.2.2.2.length] y.2.2.1],[oT y.2.2.2]):TB)
@[simp] noncomputable def eC := fun d e f g h i j k a b c (o:NM)=>(([aP (o 0),aI d,aI e,aT f,aI g],[oR h i (o 1) (a.length+(1+b)) j k,oZ a [.aj (o 2) 0 c.length] b,oT c]):TC)
@[simp] noncomputable def eD := fun b c a (r:(Int×Bool×Nat×LT)) (o:NM)=>((.bm [],sm [oR b c (o 1) (a.length+(1+r.2.2.1)) r.1 r.2.1,oZ a [.aj (o 2) 0 r.2.2.2.length] r.2.2.1],[oT r.2.2.2]):TB)
@[simp] noncomputable def pO := fun d e f g h i a b c (o:NM)=>(([aP (o 0),aI d,aK e],[oR f g (o 1) (a.length+(1+b)) h i,oZ a [.aj (o 2) 0 c.length] b,oT c]):TC)
@[simp] noncomputable def pP := fun c d a b (r:(Int×Bool×LT)) (o:NM)=>((.bm [],sm [oR c d (o 1) (a.length+(1+b)) r.1 r.2.1,oZ a [.aj (o 2) 0 r.2.2.length] b],[oT r.2.2]):TB)
noncomputable def nN : St:=sN 3 (aA (aB false) none (sN 2 (fB (fun S=>.val (aB false) S) (sN 5 (aA (aI 0) none (sN 0 (aA (aI 0) none (sN 3 (aA (.eV [.sc (.string ⟨#[]⟩),aI 0]) none (sN 7 (St.start T0 36 ((dz eB id).1) (oL 2 (lV 0 ((dz eB id).2))))))))))))))
noncomputable def jG := fun a33 e a35 f a37 g a39 (h:Bool) c d a b=>lH nN 2 fun o=>([[(11,aI a),(4,aI f),(0,aP (o 0)),(3,aT a35),(2,aI e),(1,aI a33)]],[((o 0),oR a37 g (o 1) (c.length+(0+d)) a39 b),((o 1),oZ c [] d)])
noncomputable def nO : St:=sN 3 (aA (aB false) none (sN 2 (fB (fun S=>.val (aB false) S) (sN 5 (aA (aI 0) none (sN 0 (aA (aI 0) none (sN 3 (aA (.eV [.sc (.string ⟨#[]⟩),aI 0]) none (sN 7 (St.start T0 36 ((dz eC id).1) (oL 3 (lV 0 ((dz eC id).2))))))))))))))
noncomputable def jH := fun g h i j k l (m:Int) (n:Bool) c (p:Nat) (q:LT) d e f a b=>lH nO 3 fun o=>([[(11,aI d),(4,aI j),(0,aP (o 0)),(3,aT i),(2,aI h),(1,aI g)]],[((o 0),oR k l (o 1) (c.length+(1+a)) e f),((o 1),oZ c [.aj (o 2) 0 b.length] a),((o 2),oT b)])
noncomputable def Cg : St:=sN 0 (CP 1 (.arr 1 []) (sN 7 (fB (fun S=>.val (.aj 1 0 0) (S.add (.arr 1 []))) (sN 0 (aA (aI 0) none (sN 7 (aA (aB true) none (sN 4 (aA (aB true) none (sN 3 (aA (aB false) none (sN 0 (aA (aI 0) none (sN 4 (aA (aB true) none (sN 0 (aA (aI 0) none (sN 0 (aA (aI 0) none (sN 5 (aA (aB true) none (sN 6 (St.start T0 7 [.agg [.lit [],.lit []],.lit [],.lit [],aI 0] af.empty)))))))))))))))))))))))
noncomputable def sE := fun a0 f a2 a3 c d e a b=>lH Cg 3 fun o=>([[(2,aN a2),(10,aP (o 2)),(11,aI c),(1,aN f),(3,aI a3)]],[((o 2),oR a0 f (o 1) (a.length+(0+b)) d e),((o 1),oZ a [] b)])
noncomputable def nP : St:=sN 4 (aA (aB true) none (sN 3 (dz jG)))
noncomputable def jI := fun a33 f a35 g a37 h a39 (i:Bool) d e a b c=>lH nP 2 fun o=>([[(11,aI a),(4,aI g),(0,aP (o 0)),(3,aT a35),(2,aI f),(1,aI a33),(12,aI b)]],[((o 0),oR a37 h (o 1) (d.length+(0+e)) a39 c),((o 1),oZ d [] e)])
noncomputable def nQ : St:=sN 4 (aA (aB true) none (sN 3 (dz jH)))
noncomputable def nR := fun h i j k l m (n:Int) (p:Bool) c (q:Nat) (r:LT) d e f g a b=>lH nQ 3 fun o=>([[(11,aI d),(4,aI k),(0,aP (o 0)),(3,aT j),(2,aI i),(1,aI h),(12,aI e)]],[((o 0),oR l m (o 1) (c.length+(1+a)) f g),((o 1),oZ c [.aj (o 2) 0 b.length] a),((o 2),oT b)])
noncomputable def Ch : St:=sN 4 (aA (aB true) none (sN 3 (dz sE)))
noncomputable def sF := fun a0 g a2 a3 c d e f a b=>lH Ch 3 fun o=>([[(2,aN a2),(10,aP (o 2)),(11,aI c),(1,aN g),(3,aI a3),(12,aI d)]],[((o 2),oR a0 g (o 1) (a.length+(0+b)) e f),((o 1),oZ a [] b)])
noncomputable def nS : St:=sN 2 (aA (aI 0) none (sN 4 (DA (.bm []) (DB 2 (cx dd dd dd dd dd (Sum.inr dd)) [0,1] 4) (sN 0 (aA (aI 0) none (sN 2 (fB (fun S=>.val (.lit []) (bump S)) (sN 2 (aA (.eV [aI 0,aI 0,.lit []]) none (sN 1 (sS (fun S=>.val (.lit []) S) (sN 0 (sS (fun S=>.val (aP 1) S) (sN 5 (fB (fun S=>.val (.an) S) (sN 9 (fB (fun S=>.val (aB false) S) (sN 4 (aA (aB true) none (sN 0 (aA (aI 0) none (sN 0 (fB (fun S=>.val (.lit []) S) (sN 0 (fB (fun S=>.val (aP 1) S) (sN 7 (dz jI)))))))))))))))))))))))))))
noncomputable def jJ := fun a33 h a35 i a37 j (a39:Int) (k:Bool) g (l:Nat) c d e f a b=>lH nS 5 fun o=>([[(11,aI c),(4,aI i),(0,aP (o 0)),(3,aT a35),(2,aI h),(1,aI a33),(12,aI d)]],[((o 0),oR a37 j (o 1) (g.length+(1+a)) e f),((o 1),oZ g [.aj (o 4) 0 b.length] a),((o 4),oT b)])
noncomputable def Ci : St:=sN 2 (aA (aI 0) none (sN 3 (DA (.bm []) (DB 2 (kg dd dd dd dd dd dd (Sum.inr dd)) [2,1] 3) (sN 2 (aA (.eV [aI 0]) none (sN 6 (aA (aB true) none (sN 2 (aA (aB true) none (sN 0 (aA (aI 0) none (sN 3 (dz sF)))))))))))))
noncomputable def vu := fun a0 h a2 a3 d e f g a b c=>lH Ci 4 fun o=>([[(2,aN a2),(10,aP (o 2)),(11,aI d),(1,aN h),(3,aI a3),(12,aI e)]],[((o 2),oR a0 h (o 1) (a.length+(1+b)) f g),((o 1),oZ a [.aj (o 3) 0 c.length] b),((o 3),oT c)])
noncomputable def nT : St:=sN 2 (aA (aI 0) none (sN 5 (fB (fun S=>.val (aB true) S) (sN 4 (aA (aB true) none (sN 0 (aA (aI 0) none (sN 0 (fB (fun S=>.val (.lit []) S) (sN 0 (fB (fun S=>.val (aP 1) S) (sN 7 (dz jJ)))))))))))))
noncomputable def nU := fun a33 g a35 h a37 i (a39:Int) (j:Bool) f (k:Nat) c d e a b=>lH nT 5 fun o=>([[(11,aI c),(4,aI h),(0,aP (o 0)),(3,aT a35),(2,aI g),(1,aI a33)]],[((o 0),oR a37 i (o 1) (f.length+(1+a)) d e),((o 1),oZ f [.aj (o 4) 0 b.length] a),((o 4),oT b)])
noncomputable def Cj : St:=sN 4 (aA (aB false) none (sN 2 (aA (aB true) none (sN 0 (aA (aI 0) none (sN 3 (dz vu)))))))
noncomputable def Ck := fun a0 h a2 a3 d e f g a b c=>lH Cj 4 fun o=>([[(11,aI d),(1,aN h),(10,aP (o 2)),(2,aN a2),(3,aI a3),(13,aI e)]],[((o 2),oR a0 h (o 1) (a.length+(1+b)) f g),((o 1),oZ a [.aj (o 3) 0 c.length] b),((o 3),oT c)])
noncomputable def Cl : St:=sN 4 (aA (aB false) none (sN 2 (aA (aB true) none (sN 0 (aA (aI 0) none (sN 3 (dz sF)))))))
noncomputable def Cm := fun a0 g a2 a3 c d e f a b=>lH Cl 3 fun o=>([[(11,aI c),(1,aN g),(10,aP (o 2)),(2,aN a2),(3,aI a3),(13,aI d)]],[((o 2),oR a0 g (o 1) (a.length+(0+b)) e f),((o 1),oZ a [] b)])
noncomputable def Cn : St:=sN 5 (fB (fun S=>.val (aB false) S) (sN 4 (aA (aB false) none (sN 3 (dz sE)))))
noncomputable def vw := fun a0 f a3 c d e a b=>lH Cn 3 fun o=>([[(14,.an),(15,aI c),(10,aP (o 2)),(3,aI a3)]],[((o 2),oR a0 f (o 1) (a.length+(0+b)) d e),((o 1),oZ a [] b)])
noncomputable def Co : St:=sN 4 (aA (aB true) none (sN 3 (dz vw)))
noncomputable def vx := fun a0 f a3 c d e a b=>lH Co 3 fun o=>([[(15,aI c),(10,aP (o 2)),(3,aI a3),(16,aI 0),(14,.an)]],[((o 2),oR a0 f (o 1) (a.length+(0+b)) d e),((o 1),oZ a [] b)])
noncomputable def Cp : St:=sN 4 (aA (aB true) none (sN 0 (aA (aI 0) none (sN 0 (fB (fun S=>.val (.lit []) S) (sN 0 (fB (fun S=>.val (aP 1) S) (sN 7 (dz vx)))))))))
noncomputable def vy := fun a0 f a3 c d e a b=>lH Cp 3 fun o=>([[(15,aI c),(10,aP (o 2)),(3,aI a3),(16,aI 0),(14,.an),(17,aI 0)]],[((o 2),oR a0 f (o 1) (a.length+(0+b)) d e),((o 1),oZ a [] b)])
noncomputable def Cq : St:=sN 8 (fB (fun S=>.val (.lit []) (bump (S.del 4))) (sN 3 (fB (fun S=>.val (.aj 4 0 0) (S.add (.arr 3 []))) (sN 2 (aA (.eV [aI 0,aI 0,.lit []]) none (sN 1 (sS (fun S=>.val (.lit []) S) (sN 0 (sS (fun S=>.val (aP 1) S) (sN 36 (dz vy)))))))))))
noncomputable def sG := fun a0 h a3 c d e f g a b=>lH Cq 6 fun o=>([[(15,aI c),(10,aP (o 2)),(3,aI a3),(16,aI d),(14,aT e)]],[((o 2),oR a0 h (o 1) (a.length+(0+b)) f g),((o 1),oZ a [] b)])
noncomputable def Br : St:=sN 4 (aA (aB true) none (sN 0 (aA (aI 0) none (sN 0 (fB (fun S=>.val (.lit []) S) (sN 0 (fB (fun S=>.val (aP 1) S) (sN 7 (dz sG)))))))))
noncomputable def Bs := fun a0 i a3 c d e f g h a b=>lH Br 6 fun o=>([[(15,aI c),(10,aP (o 2)),(3,aI a3),(16,aI d),(14,aT e),(17,aI f)]],[((o 2),oR a0 i (o 1) (a.length+(0+b)) g h),((o 1),oZ a [] b)])
noncomputable def Bt : St:=sN 2 (aA (aI 0) none (sN 3 (aA (aB false) none (sN 0 (aA (aI 0) none (sN 0 (fB (fun S=>.val (.lit []) S) (sN 0 (fB (fun S=>.val (aP 1) S) (sN 7 (dz sG)))))))))))
noncomputable def Bu := fun a0 g a3 c d e f a b=>lH Bt 6 fun o=>([[(14,aT c),(15,aI d),(10,aP (o 2)),(3,aI a3)]],[((o 2),oR a0 g (o 1) (a.length+(0+b)) e f),((o 1),oZ a [] b)])
noncomputable def dw (a20:Int)(a21:Term)(a22:ae)(d:LI)(a24:Int)(a25:Bool)(a:(List LT))(qD:Nat):Option (Sum Unit (Int×Nat×LT)):=
 if decide (a24=100) then(some (Sum.inl ())) else(if du .i64 (a24+1) then(CL true (if decide (0≤a20∧a20<(((a.length+(0+qD)):Nat):Int)) then(if decide (a20=(a.length:Int)∧1≤qD) then(if decide ([a21].length≤1048576) then(if decide (0≤a20∧a20<(((a.length+(0+qD)):Nat):Int)) then(if decide (a20=(a.length:Int)∧1≤qD) then(some (Sum.inr ((a24+1),(qD-1),[a21]))) else none) else none) else none) else none) else none) (if decide (0≤a20∧a20<(((a.length+(0+qD)):Nat):Int)) then(if decide (a20=(a.length:Int)∧1≤qD) then(if decide ([(Term.mk 0 0 ([]:LT))].length≤1048576) then(if decide (0≤a20∧a20<(((a.length+(0+qD)):Nat):Int)) then(if decide (a20=(a.length:Int)∧1≤qD) then(dA [(Term.mk 0 0 ([]:LT))] 0>>=fun b=>dA [(Term.mk 0 0 ([]:LT))] 0>>=fun c=>some (Sum.inr ((a24+1),(qD-1),([(Term.mk 0 0 ([]:LT))].set (0:Int).toNat a21)))) else none) else none) else none) else none) else none)) else none)
set_option maxRecDepth 100000 in
theorem eE (a20:Int)(a21:Term)(a22:ae)(f:LI)(a24:Int)(a25:Bool)(a:(List LT))(qD:Nat)(r:(Sum Unit (Int×Nat×LT)))(h:dw a20 a21 a22 f a24 a25 a qD=some r):fI Tryz.prog 35 2 (pN a20 a21 a22 f a24 a25 a qD) (kg a22 f a24 a25 a qD r):=by
 unfold dw at h
 refine jL EE 2 ?_ (by rcases r with y | y<;>exact bc)
 refine yB EE 7 h (fun g h=>?_) (fun g h=>?_)
 · cases h
   exact gP EE 7 (.bm []) [0,1] (.pure pv) uT ah
 · refine yI EE 5 h fun k h=>?_
   obtain⟨h,i⟩:=Mg h
   refine Mn EE 4 (by kernel_rfl) ?_ ?_
   · have h:=i rfl
     refine Cy 16 1 a [] qD h fun o h=>?_
     obtain⟨b,h⟩:=kY h
     refine qE EE 0 (fun S=>GP Tryz.prog S 28 (.ptr 1 (0+(a20:Int).toNat) 0)) (fun S=>.val (.an) S) (by kernel_rfl) (by kernel_rfl) (I8 (enc:=(iW ai)) (l:=a) (r:=qD) (z:=.an) (n:=1) (by kernel_rfl) rfl (by kernel_rfl) (of_decide_eq_true b)) ?_
     have b:=of_decide_eq_true b
     refine NN 2 4 5 a21 h fun h=>?_
     refine Cy 0 1 a [] qD h fun p h=>?_
     obtain⟨c,h⟩:=kY h
     have c:=of_decide_eq_true c
     refine eo EE 0 (fun S=>KO Tryz.prog S 28 (.ptr 1 (0+(a20:Int).toNat) 0) (.aj 5 0 [a21].length)) (fun S=>.skip (S.set 1 (oZ a [.aj 5 0 [a21].length] (qD-1)))) (by kernel_rfl) (by kernel_rfl) (Qw (enc:=(iW ai)) (l:=a) (r:=qD) (z:=.an) (n:=1) (m:=1) (by kernel_rfl) (by kernel_rfl) rfl (by kernel_rfl) rfl c) ?_
     cases h
     exact gP EE 3 (.bm []) [0,1,5] (.pure pv) (uo (oR a22 f 1 (a.length+(0+qD)) (a24+1) a25) (uo (oZ a [.aj 5 0 [a21].length] (qD-1)) aW)) (ua (oT [a21]) ah)
   · refine Cy 11 1 a [] qD h fun q h=>?_
     obtain⟨d,h⟩:=kY h
     refine qE EE 0 (fun S=>GP Tryz.prog S 28 (.ptr 1 (0+(a20:Int).toNat) 0)) (fun S=>.val (.an) S) (by kernel_rfl) (by kernel_rfl) (I8 (enc:=(iW ai)) (l:=a) (r:=qD) (z:=.an) (n:=1) (by kernel_rfl) rfl (by kernel_rfl) (of_decide_eq_true d)) ?_
     have d:=of_decide_eq_true d
     refine acM 3 4 5 h fun h=>?_
     refine Cy 0 1 a [] qD h fun s h=>?_
     obtain⟨e,h⟩:=kY h
     have e:=of_decide_eq_true e
     refine eo EE 0 (fun S=>KO Tryz.prog S 28 (.ptr 1 (0+(a20:Int).toNat) 0) (.aj 5 0 [(Term.mk 0 0 ([]:LT))].length)) (fun S=>.skip (S.set 1 (oZ a [.aj 5 0 [(Term.mk 0 0 ([]:LT))].length] (qD-1)))) (by kernel_rfl) (by kernel_rfl) (Qw (enc:=(iW ai)) (l:=a) (r:=qD) (z:=.an) (n:=1) (m:=1) (by kernel_rfl) (by kernel_rfl) rfl (by kernel_rfl) rfl e) ?_
     refine aqt 2 5 h fun t j h=>?_
     refine NX 0 5 a21 h fun u h=>?_
     cases h
     exact gP EE 2 (.bm []) [0,1,5] (.pure pv) (uo (oR a22 f 1 (a.length+(0+qD)) (a24+1) a25) (uo (oZ a [.aj 5 0 [(Term.mk 0 0 ([]:LT))].length] (qD-1)) aW)) (ua (oT ([(Term.mk 0 0 ([]:LT))].set (0:Int).toNat a21)) ah)
noncomputable def dx (a:Int)(f:Term)(h:ae)(i:LI)(d:Int)(g:Bool)(c:(List LT))(e:Nat)(b:LT):Option (Int×Bool×LT):=
 if decide (d=100) then(some (d,true,b)) else(if du .i64 (d+1) then(CL true (if decide (0≤a∧a<(((c.length+(1+e)):Nat):Int)) then(if decide (a=(c.length:Int)) then(if decide (b.length+[f].length≤1048576) then(if decide (0≤a∧a<(((c.length+(1+e)):Nat):Int)) then(if decide (a=(c.length:Int)) then(some ((d+1),g,(b++[f]))) else none) else none) else none) else none) else none) (if decide (0≤a∧a<(((c.length+(1+e)):Nat):Int)) then(if decide (a=(c.length:Int)) then(if decide (b.length+[(Term.mk 0 0 ([]:LT))].length≤1048576) then(if decide (0≤a∧a<(((c.length+(1+e)):Nat):Int)) then(if decide (a=(c.length:Int)) then(dA (b++[(Term.mk 0 0 ([]:LT))]) b.length>>=fun j=>dA (b++[(Term.mk 0 0 ([]:LT))]) b.length>>=fun k=>some ((d+1),g,((b++[(Term.mk 0 0 ([]:LT))]).set (b.length:Int).toNat f))) else none) else none) else none) else none) else none)) else none)
set_option maxRecDepth 100000 in
theorem jW (e:Int)(d:Term)(f:ae)(g:LI)(p:Int)(q:Bool)(b:(List LT))(c:Nat)(a:LT)(r:(Int×Bool×LT))(h:dx e d f g p q b c a=some r):fI Tryz.prog 35 2 (pO e d f g p q b c a) (pP f g b c r):=by
 unfold dx at h
 refine jL EE 3 ?_
 refine yB EE 7 h (fun s h=>?_) (fun s h=>?_)
 · cases h
   exact gP EE 7 (.bm []) [0,1,2] (.pure pv) uT (ua (oT a) ah)
 · refine yI EE 5 h fun v h=>?_
   obtain⟨h,t⟩:=Mg h
   refine Mn EE 4 (by kernel_rfl) ?_ ?_
   · have h:=t rfl
     refine Cy 16 1 b [.aj 2 0 a.length] c h fun w h=>?_
     obtain⟨i,h⟩:=kY h
     refine qE EE 0 (fun S=>GP Tryz.prog S 28 (.ptr 1 (0+(e:Int).toNat) 0)) (fun S=>.val (.aj 2 0 a.length) S) (by kernel_rfl) (by kernel_rfl) (I7 (enc:=(iW ai)) (l:=b) (V:=.aj 2 0 a.length) (r:=c) (z:=.an) (n:=1) (by kernel_rfl) rfl (by kernel_rfl) (of_decide_eq_true i)) ?_
     have i:=of_decide_eq_true i
     refine P0 2 2 5 6 a d h fun h=>?_
     refine Cy 0 1 b [.aj 2 0 a.length] c h fun x h=>?_
     obtain⟨j,h⟩:=kY h
     have j:=of_decide_eq_true j
     refine eo EE 0 (fun S=>KO Tryz.prog S 28 (.ptr 1 (0+(e:Int).toNat) 0) (.aj 6 0 ((a++[d]).length))) (fun S=>.skip (S.set 1 (oZ b [.aj 6 0 ((a++[d]).length)] c))) (by kernel_rfl) (by kernel_rfl) (Mm (enc:=(iW ai)) (l:=b) (V:=.aj 2 0 a.length) (r:=c) (z:=.an) (n:=1) (m:=1) (by kernel_rfl) (by kernel_rfl) rfl (by kernel_rfl) rfl j) ?_
     cases h
     exact gP EE 3 (.bm []) [0,1,6] (.pure pv) (us (uo (oZ b [.aj 6 0 ((a++[d]).length)] c) aW)) (ua (oT (a++[d])) ah)
   · refine Cy 11 1 b [.aj 2 0 a.length] c h fun y h=>?_
     obtain⟨k,h⟩:=kY h
     refine qE EE 0 (fun S=>GP Tryz.prog S 28 (.ptr 1 (0+(e:Int).toNat) 0)) (fun S=>.val (.aj 2 0 a.length) S) (by kernel_rfl) (by kernel_rfl) (I7 (enc:=(iW ai)) (l:=b) (V:=.aj 2 0 a.length) (r:=c) (z:=.an) (n:=1) (by kernel_rfl) rfl (by kernel_rfl) (of_decide_eq_true k)) ?_
     have k:=of_decide_eq_true k
     refine Yn 3 2 5 6 a h fun h=>?_
     refine Cy 0 1 b [.aj 2 0 a.length] c h fun A h=>?_
     obtain⟨o,h⟩:=kY h
     have o:=of_decide_eq_true o
     refine eo EE 0 (fun S=>KO Tryz.prog S 28 (.ptr 1 (0+(e:Int).toNat) 0) (.aj 6 0 ((a++[(Term.mk 0 0 ([]:LT))]).length))) (fun S=>.skip (S.set 1 (oZ b [.aj 6 0 ((a++[(Term.mk 0 0 ([]:LT))]).length)] c))) (by kernel_rfl) (by kernel_rfl) (Mm (enc:=(iW ai)) (l:=b) (V:=.aj 2 0 a.length) (r:=c) (z:=.an) (n:=1) (m:=1) (by kernel_rfl) (by kernel_rfl) rfl (by kernel_rfl) rfl o) ?_
     refine aqt 2 6 h fun B u h=>?_
     refine NX 0 6 d h fun C h=>?_
     cases h
     exact gP EE 2 (.bm []) [0,1,6] (.pure pv) (us (uo (oZ b [.aj 6 0 ((a++[(Term.mk 0 0 ([]:LT))]).length)] c) aW)) (ua (oT ((a++[(Term.mk 0 0 ([]:LT))]).set (a.length:Int).toNat d)) ah)
mutual
def gE (a0:ae)(u:LI)(a3 c e:Int)(b:LT)(a g:Int)(h:Bool)(d:(List LT))(f:Nat):Option (LT×Int):=
 if decide (a<(b.length:Int)) then(dA b a>>=fun m=>if decide (0≤c∧c<(((d.length+(0+f)):Nat):Int)) then(dA d c>>=fun n=>dA n e>>=fun o=>kd m o>>=fun p=>if decide (p<0) then(if du .i64 (a+1) then(gE a0 u a3 c e b (a+1) g h d f) else none) else(if decide (0≤a∧a≤(b.length:Int)) then(if(b.take (a:Int).toNat).isEmpty then(if decide (0≤c∧c<(((d.length+(0+f)):Nat):Int)) then(dA d c>>=fun q=>dA q e>>=fun i=>if decide ([i].length≤1048576) then(if decide (0≤a∧a≤(b.length:Int)) then(if decide ([i].length+(b.drop (a:Int).toNat).length≤1048576) then(if du .i64 (e+1) then(dm a0 u a3 c (e+1) ([i]++(b.drop (a:Int).toNat)) g h d f) else none) else none) else none) else none) else none) else(if decide ((b.take (a:Int).toNat).length≤1048576) then(if decide (0≤c∧c<(((d.length+(0+f)):Nat):Int)) then(dA d c>>=fun r=>dA r e>>=fun j=>if decide ((b.take (a:Int).toNat).length+[j].length≤1048576) then(if decide (0≤a∧a≤(b.length:Int)) then(if decide (((b.take (a:Int).toNat)++[j]).length+(b.drop (a:Int).toNat).length≤1048576) then(if du .i64 (e+1) then(dm a0 u a3 c (e+1) (((b.take (a:Int).toNat)++[j])++(b.drop (a:Int).toNat)) g h d f) else none) else none) else none) else none) else none) else none)) else none)) else none) else(if decide (0≤a∧a≤(b.length:Int)) then(if(b.take (a:Int).toNat).isEmpty then(if decide (0≤c∧c<(((d.length+(0+f)):Nat):Int)) then(dA d c>>=fun s=>dA s e>>=fun k=>if decide ([k].length≤1048576) then(if decide (0≤a∧a≤(b.length:Int)) then(if decide ([k].length+(b.drop (a:Int).toNat).length≤1048576) then(if du .i64 (e+1) then(dm a0 u a3 c (e+1) ([k]++(b.drop (a:Int).toNat)) g h d f) else none) else none) else none) else none) else none) else(if decide ((b.take (a:Int).toNat).length≤1048576) then(if decide (0≤c∧c<(((d.length+(0+f)):Nat):Int)) then(dA d c>>=fun t=>dA t e>>=fun l=>if decide ((b.take (a:Int).toNat).length+[l].length≤1048576) then(if decide (0≤a∧a≤(b.length:Int)) then(if decide (((b.take (a:Int).toNat)++[l]).length+(b.drop (a:Int).toNat).length≤1048576) then(if du .i64 (e+1) then(dm a0 u a3 c (e+1) (((b.take (a:Int).toNat)++[l])++(b.drop (a:Int).toNat)) g h d f) else none) else none) else none) else none) else none) else none)) else none)
 partial_fixpoint
def dm (a0:ae)(i:LI)(a3 a d:Int)(e:LT)(f:Int)(g:Bool)(b:(List LT))(c:Nat):Option (LT×Int):=
 if decide (0≤a∧a<(((b.length+(0+c)):Nat):Int)) then(dA b a>>=fun h=>if decide (d<(h.length:Int)) then(gE a0 i a3 a d e 0 f g b c) else(if du .i64 (a+1) then(kQ a0 i a3 e (a+1) f g b c) else none)) else none
 partial_fixpoint
def kQ (a0:ae)(g:LI)(a3:Int)(a:LT)(b c:Int)(d:Bool)(e:(List LT))(f:Nat):Option (LT×Int):=
 if decide (b≤a3) then(dm a0 g a3 b 0 a c d e f) else(some (a,0))
 partial_fixpoint
end
set_option maxRecDepth 100000 in
theorem xC (a0:ae)(A:LI)(a3 j:Int)(k:Bool)(e:(List LT))(d:Nat):(∀ g i a b r,gE a0 A a3 g i a b j k e d=some r→SX Tryz.prog (RQ (.bm [aT r.1,aI r.2])) (Bs a0 A a3 g i a b j k e d))∧(∀ m p o r,dm a0 A a3 m p o j k e d=some r→SX Tryz.prog (RQ (.bm [aT r.1,aI r.2])) (sG a0 A a3 m p o j k e d))∧(∀ q s r,kQ a0 A a3 q s j k e d=some r→SX Tryz.prog (RQ (.bm [aT r.1,aI r.2])) (Bu a0 A a3 q s j k e d)):=by
 refine gE.mutual_partial_correctness _ _ _ _ _ _ _ _ _ _ ?_ ?_ ?_
 · intro gE dm f c g i a b r h
   refine zL 4 ai a ?_
   refine yB EE 0 h (fun B h=>?_) (fun B h=>?_)
   · refine yX EE 3 28 50 ez h fun C Q h=>?_
     refine Cy 6 1 e [] d h fun d3359 h=>?_
     refine KQ 0 1 [] d h fun x3360 R h=>?_
     refine yX EE 1 28 50 ez h fun D T h=>?_
     refine yC EE 1 (rB C D) h fun v3363 h=>?_
     refine yB EE 0 h (fun E h=>?_) (fun E h=>?_)
     · refine yI EE 5 h fun c3365 h=>?_
       exact yK EE 2 [[15,10,3,16,14,17]] [2,1] (f g i a (b+1) r h)
     · obtain⟨F,h⟩:=kY h
       refine qE EE 6 (fun S=>EN Tryz.prog S 28 (aT a) none (some (aI b))) (fun S=>.val (aT (a.take (b:Int).toNat)) S) (by kernel_rfl) (by kernel_rfl) (Zt (el:=50) (n:=3) (by kernel_rfl) (by kernel_rfl) (fun x=>by rw[bw];rfl) (of_decide_eq_true F)) ?_
       cases t:(a.take (b:Int).toNat).isEmpty with
       | true=>
         have h:=wy t h
         refine eo EE 0 (fun S=>pt Tryz.prog S 28 28 (.an) (aT (a.take (b:Int).toNat))) (fun S=>.val (.an) S) (by kernel_rfl) (by kernel_rfl) (ny (enc:=ai) (el:=50) (sz:=3) (ys:=(a.take (b:Int).toNat)) (by kernel_rfl) (by kernel_rfl) (gT _ (.inl rfl)) t rfl rfl) ?_
         refine Cy 5 1 e [] d h fun d3368 h=>?_
         refine KQ 0 1 [] d h fun x3369 U h=>?_
         refine yX EE 1 28 50 ez h fun y V h=>?_
         refine NN 2 6 7 y h fun h=>?_
         obtain⟨G,h⟩:=kY h
         refine qE EE 2 (fun S=>EN Tryz.prog S 28 (aT a) (some (aI b)) none) (fun S=>.val (aT (a.drop (b:Int).toNat)) S) (by kernel_rfl) (by kernel_rfl) (N5 (el:=50) (n:=3) (by kernel_rfl) (by kernel_rfl) (fun x=>by rw[bw];rfl) (of_decide_eq_true G)) ?_
         refine abU 0 7 [y] (a.drop (b:Int).toNat) h fun h=>?_
         refine yI EE 5 h fun c3375 h=>?_
         exact xF EE rq 2 [[15,10,3,16,14]] [2,1] [] 9 (c g (i+1) ([y]++(a.drop (b:Int).toNat)) r h)
       | false=>
         have h:=wA t h
         obtain⟨H,h⟩:=kY h
         refine eo EE 0 (fun S=>pt Tryz.prog S 28 28 (.an) (aT (a.take (b:Int).toNat))) (fun S=>.val (.aj 6 0 (a.take (b:Int).toNat).length) (S.add (oT (a.take (b:Int).toNat)))) (by kernel_rfl) (by kernel_rfl) (pd (enc:=ai) (el:=50) (sz:=3) (ys:=(a.take (b:Int).toNat)) (.inl rfl) (by kernel_rfl) (by kernel_rfl) (fun x=>by rw[bw];rfl) (fun x=>by rw[bw];rfl) (gT _ (.inl rfl)) (by kernel_rfl) (by kernel_rfl) (jA t) (of_decide_eq_true H)) ?_
         refine Cy 5 1 e [] d h fun d3376 h=>?_
         refine KQ 0 1 [] d h fun x3377 W h=>?_
         refine yX EE 1 28 50 ez h fun u X h=>?_
         refine P0 2 6 7 8 (a.take (b:Int).toNat) u h fun h=>?_
         obtain⟨I,h⟩:=kY h
         refine qE EE 2 (fun S=>EN Tryz.prog S 28 (aT a) (some (aI b)) none) (fun S=>.val (aT (a.drop (b:Int).toNat)) S) (by kernel_rfl) (by kernel_rfl) (N5 (el:=50) (n:=3) (by kernel_rfl) (by kernel_rfl) (fun x=>by rw[bw];rfl) (of_decide_eq_true I)) ?_
         refine abU 0 8 ((a.take (b:Int).toNat)++[u]) (a.drop (b:Int).toNat) h fun h=>?_
         refine yI EE 5 h fun c3383 h=>?_
         exact YP EE rq 2 [[15,10,3,16,14]] [2,1] [] 10 [[(15,aI g),(10,aP 2),(3,aI a3),(16,aI (i+1)),(14,aT (((a.take (b:Int).toNat)++[u])++(a.drop (b:Int).toNat)))]] [(2,oR a0 A 1 (e.length+(0+d)) j k),(1,oZ e [] d)] (c g (i+1) (((a.take (b:Int).toNat)++[u])++(a.drop (b:Int).toNat)) r h)
   · obtain⟨J,h⟩:=kY h
     refine qE EE 23 (fun S=>EN Tryz.prog S 28 (aT a) none (some (aI b))) (fun S=>.val (aT (a.take (b:Int).toNat)) S) (by kernel_rfl) (by kernel_rfl) (Zt (el:=50) (n:=3) (by kernel_rfl) (by kernel_rfl) (fun x=>by rw[bw];rfl) (of_decide_eq_true J)) ?_
     cases v:(a.take (b:Int).toNat).isEmpty with
     | true=>
       have h:=wy v h
       refine eo EE 0 (fun S=>pt Tryz.prog S 28 28 (.an) (aT (a.take (b:Int).toNat))) (fun S=>.val (.an) S) (by kernel_rfl) (by kernel_rfl) (ny (enc:=ai) (el:=50) (sz:=3) (ys:=(a.take (b:Int).toNat)) (by kernel_rfl) (by kernel_rfl) (gT _ (.inl rfl)) v rfl rfl) ?_
       refine Cy 5 1 e [] d h fun d3386 h=>?_
       refine KQ 0 1 [] d h fun x3387 Y h=>?_
       refine yX EE 1 28 50 ez h fun z Z h=>?_
       refine NN 2 6 7 z h fun h=>?_
       obtain⟨K,h⟩:=kY h
       refine qE EE 2 (fun S=>EN Tryz.prog S 28 (aT a) (some (aI b)) none) (fun S=>.val (aT (a.drop (b:Int).toNat)) S) (by kernel_rfl) (by kernel_rfl) (N5 (el:=50) (n:=3) (by kernel_rfl) (by kernel_rfl) (fun x=>by rw[bw];rfl) (of_decide_eq_true K)) ?_
       refine abU 0 7 [z] (a.drop (b:Int).toNat) h fun h=>?_
       refine yI EE 5 h fun c3393 h=>?_
       exact xF EE rq 2 [[15,10,3,16,14]] [2,1] [] 9 (c g (i+1) ([z]++(a.drop (b:Int).toNat)) r h)
     | false=>
       have h:=wA v h
       obtain⟨L,h⟩:=kY h
       refine eo EE 0 (fun S=>pt Tryz.prog S 28 28 (.an) (aT (a.take (b:Int).toNat))) (fun S=>.val (.aj 6 0 (a.take (b:Int).toNat).length) (S.add (oT (a.take (b:Int).toNat)))) (by kernel_rfl) (by kernel_rfl) (pd (enc:=ai) (el:=50) (sz:=3) (ys:=(a.take (b:Int).toNat)) (.inl rfl) (by kernel_rfl) (by kernel_rfl) (fun x=>by rw[bw];rfl) (fun x=>by rw[bw];rfl) (gT _ (.inl rfl)) (by kernel_rfl) (by kernel_rfl) (jA v) (of_decide_eq_true L)) ?_
       refine Cy 5 1 e [] d h fun d3394 h=>?_
       refine KQ 0 1 [] d h fun x3395 ex3395 h=>?_
       refine yX EE 1 28 50 ez h fun w ex3397 h=>?_
       refine P0 2 6 7 8 (a.take (b:Int).toNat) w h fun h=>?_
       obtain⟨M,h⟩:=kY h
       refine qE EE 2 (fun S=>EN Tryz.prog S 28 (aT a) (some (aI b)) none) (fun S=>.val (aT (a.drop (b:Int).toNat)) S) (by kernel_rfl) (by kernel_rfl) (N5 (el:=50) (n:=3) (by kernel_rfl) (by kernel_rfl) (fun x=>by rw[bw];rfl) (of_decide_eq_true M)) ?_
       refine abU 0 8 ((a.take (b:Int).toNat)++[w]) (a.drop (b:Int).toNat) h fun h=>?_
       refine yI EE 5 h fun c3401 h=>?_
       exact YP EE rq 2 [[15,10,3,16,14]] [2,1] [] 10 [[(15,aI g),(10,aP 2),(3,aI a3),(16,aI (i+1)),(14,aT (((a.take (b:Int).toNat)++[w])++(a.drop (b:Int).toNat)))]] [(2,oR a0 A 1 (e.length+(0+d)) j k),(1,oZ e [] d)] (c g (i+1) (((a.take (b:Int).toNat)++[w])++(a.drop (b:Int).toNat)) r h)
 · intro gE kQ f l m p o r h
   refine YR 7 1 e [] d h fun d3335 h=>?_
   refine YS 0 1 [] d h fun N ex3336 h=>?_
   refine zL 0 ai N ?_
   refine yB EE 0 h (fun O h=>?_) (fun O h=>?_)
   · exact yK EE 4 [[15,10,3,16,14,17]] [2,1] (f m p o 0 r h)
   · refine yI EE 3 h fun c3410 h=>?_
     exact yK EE 2 [[14,15,10,3]] [2,1] (l o (m+1) r h)
 · intro dm c q s r h
   refine yB EE 3 h (fun P h=>?_) (fun P h=>?_)
   · exact yK EE 4 [[15,10,3,16,14]] [2,1] (c s 0 q r h)
   · cases h
     exact yR EE 6
def qJ (a0:ae)(h:LI)(a3 a e:Int)(f:Bool)(b:(List LT))(d:Nat):Option (LT×Int):=
 if decide (0≤a∧a<(((b.length+(0+d)):Nat):Int)) then(dA b a>>=fun g=>dA g 0>>=fun c=>if decide ([c].length≤1048576) then(if decide ([c].length+([]:LT).length≤1048576) then(dm a0 h a3 a 1 ([c]++([]:LT)) e f b d) else none) else none) else none
set_option maxRecDepth 100000 in
theorem zH (a0:ae)(k:LI)(a3 d e:Int)(f:Bool)(c:(List LT))(a:Nat)(r:(LT×Int))(h:qJ a0 k a3 d e f c a=some r):SX Tryz.prog (RQ (.bm [aT r.1,aI r.2])) (vy a0 k a3 d e f c a):=by
 unfold qJ at h
 refine Cy 36 1 c [] a h fun l h=>?_
 refine KQ 0 1 [] a h fun m i h=>?_
 refine yX EE 1 28 50 ez h fun b j h=>?_
 refine NN 2 3 4 b h fun h=>?_
 obtain⟨g,h⟩:=kY h
 refine L0 EE 3 (fun S=>pt Tryz.prog S 28 28 (.aj 4 0 [b].length) (.an)) (es:=([b]++([]:LT)).map ai) (fun S=>bump (S.del 4)) (by kernel_rfl) (by kernel_rfl) (Ht (enc:=ai) (el:=50) (sz:=3) (xs:=[b]) (ys:=([]:LT)) (by kernel_rfl) (by kernel_rfl) (fun x=>by rw[bw];rfl) (fun x=>by rw[bw];rfl) (by kernel_rfl) rfl (by first | rfl | (simp;done) | omega | (simp;omega)) (by kernel_rfl) (by kernel_rfl) (by kernel_rfl) g) ?_
 exact yK EE 8 [[15,10,3,16,14]] [2,1] ((xC a0 k a3 e f c a).2.1 d 1 ([b]++([]:LT)) r h)
mutual
def nI (a0:ae)(g:LI)(a3 a d:Int)(e:Bool)(b:(List LT))(c:Nat):Option (LT×Int):=
 if decide (0≤a∧a<(((b.length+(0+c)):Nat):Int)) then(dA b a>>=fun f=>if decide (0<(f.length:Int)) then(qJ a0 g a3 a d e b c) else(if du .i64 (a+1) then(kA a0 g a3 (a+1) d e b c) else none)) else none
 partial_fixpoint
def kA (a0:ae)(f:LI)(a3 a b:Int)(c:Bool)(d:(List LT))(e:Nat):Option (LT×Int):=
 if decide (a≤a3) then(nI a0 f a3 a b c d e) else(some (([]:LT),0))
 partial_fixpoint
end
set_option maxRecDepth 100000 in
theorem yi (a0:ae)(m:LI)(a3 e:Int)(f:Bool)(b:(List LT))(a:Nat):(∀ g r,nI a0 m a3 g e f b a=some r→SX Tryz.prog (RQ (.bm [aT r.1,aI r.2])) (vx a0 m a3 g e f b a))∧(∀ i r,kA a0 m a3 i e f b a=some r→SX Tryz.prog (RQ (.bm [aT r.1,aI r.2])) (vw a0 m a3 i e f b a)):=by
 refine nI.mutual_partial_correctness _ _ _ _ _ _ _ _ _ ?_ ?_
 · intro kA c g r h
   refine YR 7 1 b [] a h fun o h=>?_
   refine YS 0 1 [] a h fun j n h=>?_
   refine zL 0 ai j ?_
   refine yB EE 0 h (fun k h=>?_) (fun k h=>?_)
   · exact yK EE 4 [[15,10,3,16,14,17]] [2,1] (zH a0 m a3 g e f b a r h)
   · refine yI EE 3 h fun p h=>?_
     exact yK EE 2 [[14,15,10,3]] [2,1] (c (g+1) r h)
 · intro nI d i r h
   refine yB EE 3 h (fun l h=>?_) (fun l h=>?_)
   · exact yK EE 4 [[15,10,3,16,14]] [2,1] (d i r h)
   · cases h
     exact nr EE 6 (v:=.bm [.an,aI 0]) (by kernel_rfl) (Fz.iH (.an) (.pure (by simp[aq,br,bH,aD,-List.map_append,-List.map_drop,-List.map_take,-List.map_set,-List.map_replicate])))
mutual
def aU (h i:Int)(e:LT)(f:Int)(j:ae)(k:LI)(p:Int)(q:Bool)(b:(List LT))(r:Nat)(s:LT)(a c l:Int)(g:Bool)(d:Nat)(m:LT):Option (Int×Bool×Nat×LT):=
 if decide (0≤a∧a<(((b.length+(1+d)):Nat):Int)) then(dA b a>>=fun v=>if decide (c<(v.length:Int)) then(if g then(if du .i64 (a+1) then(bk h i e f j k p q b r s (a+1) l g d m) else none) else(if e.isEmpty then(if decide (0≤a∧a<(((b.length+(1+d)):Nat):Int)) then(dA b a>>=fun w=>dA w c>>=fun t=>if decide ([t].length≤1048576) then(if du .i64 (f-a) then(aH h i [t] (f-a) j k l g b d m>>=fun n=>if du .i64 (c+1) then(aU h i e f j k p q b r s a (c+1) n.1 n.2.1 n.2.2.1 n.2.2.2) else none) else none) else none) else none) else(if decide (e.length≤1048576) then(if decide (0≤a∧a<(((b.length+(1+d)):Nat):Int)) then(dA b a>>=fun x=>dA x c>>=fun u=>if decide (e.length+[u].length≤1048576) then(if du .i64 (f-a) then(aH h i (e++[u]) (f-a) j k l g b d m>>=fun o=>if du .i64 (c+1) then(aU h i e f j k p q b r s a (c+1) o.1 o.2.1 o.2.2.1 o.2.2.2) else none) else none) else none) else none) else none))) else(if du .i64 (a+1) then(bk h i e f j k p q b r s (a+1) l g d m) else none)) else none
 partial_fixpoint
def aH (j g:Int)(f:LT)(k:Int)(h:ae)(l:LI)(c:Int)(a:Bool)(m:(List LT))(b:Nat)(d:LT):Option (Int×Bool×Nat×LT):=
 dA h.Cons g>>=fun i=>if du .i64 (i.dF-(f.length:Int)) then(if a then(some (c,a,b,d)) else(if decide (((i.dF-(f.length:Int)):Int)=0) then(if decide (k=0) then(dx j (Term.mk 3 g f) h l c a m b d>>=fun e=>some (e.1,e.2.1,b,e.2.2)) else(some (c,a,b,d))) else(bk j g f k h l c a m b d 1 c a b d))) else none
 partial_fixpoint
def bk (g h:Int)(i:LT)(f:Int)(j:ae)(k:LI)(l:Int)(m:Bool)(n:(List LT))(o:Nat)(p:LT)(a b:Int)(c:Bool)(d:Nat)(e:LT):Option (Int×Bool×Nat×LT):=
 if decide (a≤f) then(aU g h i f j k l m n o p a 0 b c d e) else(some (b,c,d,e))
 partial_fixpoint
end
set_option maxRecDepth 100000 in
theorem mQ (s t:Int)(n:ae)(o:LI)(l:(List LT)):(∀ c f g i e d m u p q j k r,aU s t c f n o g i l e d m u p q j k=some r→SX Tryz.prog (gy 2 (eD n o l r)) (nR s t c f n o g i l e d m u p q j k))∧(∀ c f g i e d r,aH s t c f n o g i l e d=some r→fI Tryz.prog 36 2 (eC s t c f n o g i l e d) (eD n o l r))∧(∀ c f g i e d z A B C v r,bk s t c f n o g i l e d z A B C v=some r→SX Tryz.prog (gy 2 (eD n o l r)) (jH s t c f n o g i l e d z A B C v)):=by
 refine aU.mutual_partial_correctness _ _ _ _ _ _ _ _ ?_ ?_ ?_
 · intro aU aH bk a cR b c f g i e d m u p q j k r h
   refine YR 7 1 l [.aj 2 0 k.length] j h fun Z h=>?_
   refine YS 0 1 [.aj 2 0 k.length] j h fun K T h=>?_
   refine zL 0 ai K ?_
   refine yB EE 0 h (fun L h=>?_) (fun L h=>?_)
   · refine PZ EE 4 h (fun M h=>?_) (fun M h=>?_)
     · refine yI EE 5 h fun c2796 h=>?_
       exact sL EE qk 2 [[11,4,0,3,2,1]] [0,1,2] (b c f g i e d (m+1) p q j k r h)
     · cases D:c.isEmpty with
       | true=>
         have h:=wy D h
         refine eo EE 9 (fun S=>pt Tryz.prog S 28 28 (.an) (aT c)) (fun S=>.val (.an) S) (by kernel_rfl) (by kernel_rfl) (ny (enc:=ai) (el:=50) (sz:=3) (ys:=c) (by kernel_rfl) (by kernel_rfl) (gT _ (.inl rfl)) D rfl rfl) ?_
         refine Cy 5 1 l [.aj 2 0 k.length] j h fun d2798 h=>?_
         refine KQ 0 1 [.aj 2 0 k.length] j h fun x2799 U h=>?_
         refine yX EE 1 28 50 ez h fun F V h=>?_
         refine acN 2 3 F h fun h=>?_
         refine yI EE 2 h fun c2806 h=>?_
         obtain⟨w,H,h⟩:=bC h
         refine yG EE 0 (cR [F] (f-m) p q j k w H _ 5 [0,1,2] gw) ?_
         refine yI EE 4 h fun c2805 h=>?_
         exact xF EE qk 2 [[11,4,0,3,2,1,12]] [0,1,5] [(2,5)] 6 (a c f g i e d m (u+1) w.1 w.2.1 w.2.2.1 w.2.2.2 r h)
       | false=>
         have h:=wA D h
         obtain⟨N,h⟩:=kY h
         refine eo EE 9 (fun S=>pt Tryz.prog S 28 28 (.an) (aT c)) (fun S=>.val (.aj 3 0 c.length) (S.add (oT c))) (by kernel_rfl) (by kernel_rfl) (pd (enc:=ai) (el:=50) (sz:=3) (ys:=c) (.inl rfl) (by kernel_rfl) (by kernel_rfl) (fun x=>by rw[bw];rfl) (fun x=>by rw[bw];rfl) (gT _ (.inl rfl)) (by kernel_rfl) (by kernel_rfl) (jA D) (of_decide_eq_true N)) ?_
         refine Cy 5 1 l [.aj 2 0 k.length] j h fun d2807 h=>?_
         refine KQ 0 1 [.aj 2 0 k.length] j h fun x2808 W h=>?_
         refine yX EE 1 28 50 ez h fun G X h=>?_
         refine acO 2 3 4 c G h fun h=>?_
         refine yI EE 2 h fun c2815 h=>?_
         obtain⟨y,I,h⟩:=bC h
         refine yG EE 0 (cR (c++[G]) (f-m) p q j k y I _ 6 [0,1,2] gw) ?_
         refine yI EE 4 h fun c2814 h=>?_
         exact xF EE qk 2 [[11,4,0,3,2,1,12]] [0,1,6] [(2,6)] 7 (a c f g i e d m (u+1) y.1 y.2.1 y.2.2.1 y.2.2.2 r h)
   · refine yI EE 10 h fun c2816 h=>?_
     exact sL EE qk 2 [[11,4,0,3,2,1]] [0,1,2] (b c f g i e d (m+1) p q j k r h)
 · intro bk b c f g i e d r h
   refine jL EE 3 ?_
   refine yX EE 7 22 35 cB h fun x2696 Y h=>?_
   refine zL 3 ai c ?_
   refine yI EE 0 h fun c2817 h=>?_
   refine PZ EE 5 h (fun O h=>?_) (fun O h=>?_)
   · cases h
     exact gP EE 2 (.bm []) [0,1,2] (.pure pv) uT (ua (oT d) ah)
   · refine yB EE 2 h (fun P h=>?_) (fun P h=>?_)
     · refine yB EE 2 h (fun Q h=>?_) (fun Q h=>?_)
       · obtain⟨E,J,h⟩:=bC h
         refine yG EE 6 (jW s (Term.mk 3 t c) n o g i l e d E J _ 3 [0,1,2] gw) ?_
         cases h
         exact gP EE 2 (.bm []) [0,1,3] (.pure pv) (us (uo (oZ l [.aj 3 0 E.2.2.length] e) aW)) (ua (oT E.2.2) ah)
       · cases h
         exact gP EE 2 (.bm []) [0,1,2] (.pure pv) uT (ua (oT d) ah)
     · exact sL EE qk 3 [[11,4,0,3,2,1]] [0,1,2] (b c f g i e d 1 g i e d r h)
 · intro aU a c f g i e d z A B C v r h
   refine yB EE 3 h (fun R h=>?_) (fun R h=>?_)
   · exact sL EE qk 4 [[11,4,0,3,2,1,12]] [0,1,2] (a c f g i e d z 0 A B C v r h)
   · cases h
     exact gP EE 2 (.bm []) [0,1,2] (.pure pv) uT (ua (oT v) ah)
theorem cR (d e:Int)(f:LT)(g:Int)(a:ae)(b:LI)(i:Int)(j:Bool)(c:(List LT))(k:Nat)(l:LT)(r:(Int×Bool×Nat×LT))(h:aH d e f g a b i j c k l=some r):fI Tryz.prog 36 2 (eC d e f g a b i j c k l) (eD a b c r):=(mQ d e a b c).2.1 f g i j k l r h
mutual
def bL (a33 g:Int)(a35:LT)(f:Int)(a37:ae)(h:LI)(a39:Int)(i:Bool)(j:(List LT))(k:Nat)(a b:Int)(c:Bool)(d:Nat)(e:LT):Option (Sum Bool (Int×Bool×Nat×LT)):=
 if decide (a≤f) then(ay a33 g a35 f a37 h a39 i j k a 0 b c d e) else(some (Sum.inr (b,c,d,e)))
 partial_fixpoint
def ay (a33 k:Int)(a35:LT)(j:Int)(a37:ae)(l:LI)(a39:Int)(o:Bool)(d:(List LT))(p:Nat)(a b f:Int)(e:Bool)(c:Nat)(g:LT):Option (Sum Bool (Int×Bool×Nat×LT)):=
 if decide (0≤a∧a<(((d.length+(1+c)):Nat):Int)) then(dA d a>>=fun q=>if decide (b<(q.length:Int)) then(if e then(if du .i64 (a+1) then(bL a33 k a35 j a37 l a39 o d p (a+1) f e c g) else none) else(if a35.isEmpty then(if decide (0≤a∧a<(((d.length+(1+c)):Nat):Int)) then(dA d a>>=fun r=>dA r b>>=fun m=>if decide ([m].length≤1048576) then(if du .i64 (j-a) then(aH a33 k [m] (j-a) a37 l f e d c g>>=fun h=>if du .i64 (b+1) then(ay a33 k a35 j a37 l a39 o d p a (b+1) h.1 h.2.1 h.2.2.1 h.2.2.2) else none) else none) else none) else none) else(if decide (a35.length≤1048576) then(if decide (0≤a∧a<(((d.length+(1+c)):Nat):Int)) then(dA d a>>=fun s=>dA s b>>=fun n=>if decide (a35.length+[n].length≤1048576) then(if du .i64 (j-a) then(aH a33 k (a35++[n]) (j-a) a37 l f e d c g>>=fun i=>if du .i64 (b+1) then(ay a33 k a35 j a37 l a39 o d p a (b+1) i.1 i.2.1 i.2.2.1 i.2.2.2) else none) else none) else none) else none) else none))) else(if du .i64 (a+1) then(bL a33 k a35 j a37 l a39 o d p (a+1) f e c g) else none)) else none
 partial_fixpoint
end
set_option maxRecDepth 100000 in
theorem iT (a33 u:Int)(a35:LT)(v:Int)(a37:ae)(t:LI)(a39:Int)(A:Bool)(j:(List LT))(w:Nat):(∀ o p q k i r,bL a33 u a35 v a37 t a39 A j w o p q k i=some r→SX Tryz.prog (gy 2 (cx a37 t a39 j w r)) (nU a33 u a35 v a37 t a39 A j w o p q k i))∧(∀ e l f g c d r,ay a33 u a35 v a37 t a39 A j w e l f g c d=some r→SX Tryz.prog (gy 2 (cx a37 t a39 j w r)) (jJ a33 u a35 v a37 t a39 A j w e l f g c d)):=by
 refine bL.mutual_partial_correctness _ _ _ _ _ _ _ _ _ _ _ _ ?_ ?_
 · intro ay a o p q k i r h
   refine yB EE 3 h (fun D h=>?_) (fun D h=>?_)
   · exact sL EE qk 4 [[11,4,0,3,2,1,12]] [0,1,4] (a o 0 p q k i r h)
   · cases h
     exact gP EE 2 (.bm []) [0,1,4] (.pure pv) (us (uo (oZ j [.aj 4 0 i.length] k) aW)) (ua (oT i) ah)
 · intro bL ay b a e l f g c d r h
   refine YR 7 1 j [.aj 4 0 d.length] c h fun N h=>?_
   refine YS 0 1 [.aj 4 0 d.length] c h fun E I h=>?_
   refine zL 0 ai E ?_
   refine yB EE 0 h (fun F h=>?_) (fun F h=>?_)
   · refine PZ EE 4 h (fun G h=>?_) (fun G h=>?_)
     · refine yI EE 5 h fun O h=>?_
       exact sL EE qk 2 [[11,4,0,3,2,1]] [0,1,4] (b (e+1) f g c d r h)
     · cases s:a35.isEmpty with
       | true=>
         have h:=wy s h
         refine eo EE 9 (fun S=>pt Tryz.prog S 28 28 (.an) (aT a35)) (fun S=>.val (.an) S) (by kernel_rfl) (by kernel_rfl) (ny (enc:=ai) (el:=50) (sz:=3) (ys:=a35) (by kernel_rfl) (by kernel_rfl) (gT _ (.inl rfl)) s rfl rfl) ?_
         refine Cy 5 1 j [.aj 4 0 d.length] c h fun P h=>?_
         refine KQ 0 1 [.aj 4 0 d.length] c h fun Q J h=>?_
         refine yX EE 1 28 50 ez h fun y K h=>?_
         refine acN 2 5 y h fun h=>?_
         refine yI EE 2 h fun R h=>?_
         obtain⟨m,B,h⟩:=bC h
         refine yG EE 0 (cR a33 u [y] (v-e) a37 t f g j c d m B _ 7 [0,1,4] gw) ?_
         refine yI EE 4 h fun T h=>?_
         exact xF EE qk 2 [[11,4,0,3,2,1,12]] [0,1,7] [(4,7)] 8 (a e (l+1) m.1 m.2.1 m.2.2.1 m.2.2.2 r h)
       | false=>
         have h:=wA s h
         obtain⟨H,h⟩:=kY h
         refine eo EE 9 (fun S=>pt Tryz.prog S 28 28 (.an) (aT a35)) (fun S=>.val (.aj 5 0 a35.length) (S.add (oT a35))) (by kernel_rfl) (by kernel_rfl) (pd (enc:=ai) (el:=50) (sz:=3) (ys:=a35) (.inl rfl) (by kernel_rfl) (by kernel_rfl) (fun x=>by rw[bw];rfl) (fun x=>by rw[bw];rfl) (gT _ (.inl rfl)) (by kernel_rfl) (by kernel_rfl) (jA s) (of_decide_eq_true H)) ?_
         refine Cy 5 1 j [.aj 4 0 d.length] c h fun U h=>?_
         refine KQ 0 1 [.aj 4 0 d.length] c h fun V L h=>?_
         refine yX EE 1 28 50 ez h fun z M h=>?_
         refine acO 2 5 6 a35 z h fun h=>?_
         refine yI EE 2 h fun W h=>?_
         obtain⟨n,C,h⟩:=bC h
         refine yG EE 0 (cR a33 u (a35++[z]) (v-e) a37 t f g j c d n C _ 8 [0,1,4] gw) ?_
         refine yI EE 4 h fun X h=>?_
         exact xF EE qk 2 [[11,4,0,3,2,1,12]] [0,1,8] [(4,8)] 9 (a e (l+1) n.1 n.2.1 n.2.2.1 n.2.2.2 r h)
   · refine yI EE 10 h fun Y h=>?_
     exact sL EE qk 2 [[11,4,0,3,2,1]] [0,1,4] (b (e+1) f g c d r h)
mutual
def aV (a33 i:Int)(a35:LT)(f:Int)(a37:ae)(j:LI)(a39:Int)(k:Bool)(c:(List LT))(d:Nat)(a b:Int)(e:Bool):Option (Sum Bool (Int×Bool×Nat×LT)):=
 if decide (0≤a∧a<(((c.length+(0+d)):Nat):Int)) then(dA c a>>=fun n=>if decide (b<(n.length:Int)) then(if e then(if du .i64 (a+1) then(bl a33 i a35 f a37 j a39 k c d (a+1) e) else none) else(if a35.isEmpty then(if decide (0≤a∧a<(((c.length+(0+d)):Nat):Int)) then(dA c a>>=fun o=>dA o b>>=fun l=>if decide ([l].length≤1048576) then(if du .i64 (f-a) then(aS a33 i [l] (f-a) a37 j a39 e c d>>=fun p=>(match p with | (Sum.inl q)=>if du .i64 (b+1) then(aV a33 i a35 f a37 j a39 k c d a (b+1) q) else none | (Sum.inr g)=>if du .i64 (b+1) then(ay a33 i a35 f a37 j a39 k c d a (b+1) g.1 g.2.1 g.2.2.1 g.2.2.2) else none)) else none) else none) else none) else(if decide (a35.length≤1048576) then(if decide (0≤a∧a<(((c.length+(0+d)):Nat):Int)) then(dA c a>>=fun r=>dA r b>>=fun m=>if decide (a35.length+[m].length≤1048576) then(if du .i64 (f-a) then(aS a33 i (a35++[m]) (f-a) a37 j a39 e c d>>=fun s=>(match s with | (Sum.inl t)=>if du .i64 (b+1) then(aV a33 i a35 f a37 j a39 k c d a (b+1) t) else none | (Sum.inr h)=>if du .i64 (b+1) then(ay a33 i a35 f a37 j a39 k c d a (b+1) h.1 h.2.1 h.2.2.1 h.2.2.2) else none)) else none) else none) else none) else none))) else(if du .i64 (a+1) then(bl a33 i a35 f a37 j a39 k c d (a+1) e) else none)) else none
 partial_fixpoint
def aS (a33 d:Int)(a35:LT)(f:Int)(a37:ae)(g:LI)(a39:Int)(a:Bool)(h:(List LT))(i:Nat):Option (Sum Bool (Int×Bool×Nat×LT)):=
 dA a37.Cons d>>=fun c=>if du .i64 (c.dF-(a35.length:Int)) then(if a then(some (Sum.inl a)) else(if decide (((c.dF-(a35.length:Int)):Int)=0) then(if decide (f=0) then(dw a33 (Term.mk 3 d a35) a37 g a39 a h i>>=fun e=>(match e with | (Sum.inl j)=>some (Sum.inl true) | (Sum.inr b)=>some (Sum.inr (b.1,a,b.2.1,b.2.2)))) else(some (Sum.inl a))) else(bl a33 d a35 f a37 g a39 a h i 1 a))) else none
 partial_fixpoint
def bl (a33 d:Int)(a35:LT)(c:Int)(a37:ae)(e:LI)(a39:Int)(f:Bool)(g:(List LT))(h:Nat)(a:Int)(b:Bool):Option (Sum Bool (Int×Bool×Nat×LT)):=
 if decide (a≤c) then(aV a33 d a35 c a37 e a39 f g h a 0 b) else(some (Sum.inl b))
 partial_fixpoint
end
set_option maxRecDepth 100000 in
theorem mR (a33 l:Int)(a37:ae)(k:LI)(a39:Int)(i:(List LT))(f:Nat):(∀ a35 d e c j g r,aV a33 l a35 d a37 k a39 e i f c j g=some r→SX Tryz.prog (gy 2 (cx a37 k a39 i f r)) (jI a33 l a35 d a37 k a39 e i f c j g))∧(∀ a35 d e r,aS a33 l a35 d a37 k a39 e i f=some r→fI Tryz.prog 36 2 (eB a33 l a35 d a37 k a39 e i f) (cx a37 k a39 i f r))∧(∀ a35 d e m n r,bl a33 l a35 d a37 k a39 e i f m n=some r→SX Tryz.prog (gy 2 (cx a37 k a39 i f r)) (jG a33 l a35 d a37 k a39 e i f m n)):=by
 refine aV.mutual_partial_correctness _ _ _ _ _ _ _ _ _ _ ?_ ?_ ?_
 · intro aV aS bl a cg b a35 d e c j g r h
   refine YR 7 1 i [] f h fun U h=>?_
   refine YS 0 1 [] f h fun z N h=>?_
   refine zL 0 ai z ?_
   refine yB EE 0 h (fun A h=>?_) (fun A h=>?_)
   · refine PZ EE 4 h (fun B h=>?_) (fun B h=>?_)
     · refine yI EE 5 h fun V h=>?_
       exact sL EE qk 2 [[11,4,0,3,2,1]] [0,1] (b a35 d e (c+1) g r h)
     · cases o:a35.isEmpty with
       | true=>
         have h:=wy o h
         refine eo EE 9 (fun S=>pt Tryz.prog S 28 28 (.an) (aT a35)) (fun S=>.val (.an) S) (by kernel_rfl) (by kernel_rfl) (ny (enc:=ai) (el:=50) (sz:=3) (ys:=a35) (by kernel_rfl) (by kernel_rfl) (gT _ (.inl rfl)) o rfl rfl) ?_
         refine Cy 5 1 i [] f h fun W h=>?_
         refine KQ 0 1 [] f h fun X O h=>?_
         refine yX EE 1 28 50 ez h fun s P h=>?_
         refine acN 2 2 s h fun h=>?_
         refine yI EE 2 h fun Y h=>?_
         obtain⟨C,u,h⟩:=bC h
         rcases C with D | p
         · dsimp only at h
           refine yG EE 0 (cg [s] (d-c) g _ u _ 4 [0,1] gw) ?_
           refine yI EE 4 h fun Z h=>?_
           exact xF EE qk 2 [[11,4,0,3,2,1,12]] [0,1] [] 4 (a a35 d e c (j+1) D r h)
         · dsimp only at h
           refine yG EE 0 (cg [s] (d-c) g _ u _ 4 [0,1] gw) ?_
           refine yI EE 4 h fun c2679 h=>?_
           exact sL EE qk 2 [[11,4,0,3,2,1,12]] [0,1,4] ((iT a33 l a35 d a37 k a39 e i f).2 c (j+1) p.1 p.2.1 p.2.2.1 p.2.2.2 r h)
       | false=>
         have h:=wA o h
         obtain⟨E,h⟩:=kY h
         refine eo EE 9 (fun S=>pt Tryz.prog S 28 28 (.an) (aT a35)) (fun S=>.val (.aj 2 0 a35.length) (S.add (oT a35))) (by kernel_rfl) (by kernel_rfl) (pd (enc:=ai) (el:=50) (sz:=3) (ys:=a35) (.inl rfl) (by kernel_rfl) (by kernel_rfl) (fun x=>by rw[bw];rfl) (fun x=>by rw[bw];rfl) (gT _ (.inl rfl)) (by kernel_rfl) (by kernel_rfl) (jA o) (of_decide_eq_true E)) ?_
         refine Cy 5 1 i [] f h fun d2681 h=>?_
         refine KQ 0 1 [] f h fun x2682 Q h=>?_
         refine yX EE 1 28 50 ez h fun t R h=>?_
         refine acO 2 2 3 a35 t h fun h=>?_
         refine yI EE 2 h fun c2693 h=>?_
         obtain⟨F,v,h⟩:=bC h
         rcases F with G | q
         · dsimp only at h
           refine yG EE 0 (cg (a35++[t]) (d-c) g _ v _ 5 [0,1] gw) ?_
           refine yI EE 4 h fun c2689 h=>?_
           exact xF EE qk 2 [[11,4,0,3,2,1,12]] [0,1] [] 5 (a a35 d e c (j+1) G r h)
         · dsimp only at h
           refine yG EE 0 (cg (a35++[t]) (d-c) g _ v _ 5 [0,1] gw) ?_
           refine yI EE 4 h fun c2692 h=>?_
           exact xF EE qk 2 [[11,4,0,3,2,1,12]] [0,1,5] [(4,5)] 6 ((iT a33 l a35 d a37 k a39 e i f).2 c (j+1) q.1 q.2.1 q.2.2.1 q.2.2.2 r h)
   · refine yI EE 10 h fun c2694 h=>?_
     exact sL EE qk 2 [[11,4,0,3,2,1]] [0,1] (b a35 d e (c+1) g r h)
 · intro bl b a35 d e r h
   refine jL EE 2 ?_ (by rcases r with y | y<;>exact bc)
   refine yX EE 7 22 35 cB h fun x2427 T h=>?_
   refine zL 3 ai a35 ?_
   refine yI EE 0 h fun c2695 h=>?_
   refine PZ EE 5 h (fun H h=>?_) (fun H h=>?_)
   · cases h
     exact gP EE 2 (.bm []) [0,1] (.pure pv) uT ah
   · refine yB EE 2 h (fun I h=>?_) (fun I h=>?_)
     · refine yB EE 2 h (fun J h=>?_) (fun J h=>?_)
       · obtain⟨K,w,h⟩:=bC h
         rcases K with y2432 | L
         · dsimp only at h
           refine yG EE 6 (eE a33 (Term.mk 3 l a35) a37 k a39 e i f _ w _ 2 [0,1] gw) ?_
           cases h
           exact gP EE 2 (.bm []) [0,1] (.pure pv) uT ah
         · dsimp only at h
           refine yG EE 6 (eE a33 (Term.mk 3 l a35) a37 k a39 e i f _ w _ 2 [0,1] gw) ?_
           cases h
           exact gP EE 2 (.bm []) [0,1,2] (.pure pv) uT (ua (oT L.2.2) ah)
       · cases h
         exact gP EE 2 (.bm []) [0,1] (.pure pv) uT ah
     · exact sL EE qk 3 [[11,4,0,3,2,1]] [0,1] (b a35 d e 1 e r h)
 · intro aV a a35 d e m n r h
   refine yB EE 3 h (fun M h=>?_) (fun M h=>?_)
   · exact sL EE qk 4 [[11,4,0,3,2,1,12]] [0,1] (a a35 d e m 0 n r h)
   · cases h
     exact gP EE 2 (.bm []) [0,1] (.pure pv) uT ah
theorem cg (a33 d:Int)(a35:LT)(e:Int)(a37:ae)(a:LI)(a39:Int)(f:Bool)(b:(List LT))(c:Nat)(r:(Sum Bool (Int×Bool×Nat×LT)))(h:aS a33 d a35 e a37 a a39 f b c=some r):fI Tryz.prog 36 2 (eB a33 d a35 e a37 a a39 f b c) (cx a37 a a39 b c r):=(mR a33 d a37 a a39 b c).2.1 a35 e f r h
mutual
def fb (a0:ae)(j a2:LI)(a3 a b e:Int)(f:Bool)(d:(List LT))(g:Nat)(h:LT):Option (LT×Int):=
 if decide (b<(j.length:Int)) then(dA j b>>=fun i=>if du .i64 (a-1) then(aH a i ([]:LT) (a-1) a0 j e f d g h>>=fun c=>if du .i64 (b+1) then(fb a0 j a2 a3 a (b+1) c.1 c.2.1 d c.2.2.1 c.2.2.2) else none) else none) else(if du .i64 (a+1) then(dQ a0 j a2 a3 (a+1) e f (d++[h]) g) else none)
 partial_fixpoint
def dQ (a0:ae)(f a2:LI)(a3 b c:Int)(a:Bool)(d:(List LT))(e:Nat):Option (LT×Int):=
 if decide (b≤a3) then(jm a0 f a2 a3 b 0 c a d e) else(if a then(some (([]:LT),3)) else(kA a0 f a3 1 c a d e))
 partial_fixpoint
def jm (a0:ae)(j a2:LI)(a3 b a d:Int)(e:Bool)(c:(List LT))(f:Nat):Option (LT×Int):=
 if decide (a<(a2.length:Int)) then(if decide (b=1) then(dA a2 a>>=fun h=>dw 1 (Term.mk 2 h ([]:LT)) a0 j d e c f>>=fun i=>(match i with | (Sum.inl k)=>if du .i64 (a+1) then(jm a0 j a2 a3 b (a+1) d true c f) else none | (Sum.inr g)=>if du .i64 (a+1) then(jn a0 j a2 a3 b (a+1) g.1 e c g.2.1 g.2.2) else none)) else(fe a0 j a2 a3 b 0 d e c f)) else(fe a0 j a2 a3 b 0 d e c f)
 partial_fixpoint
def fe (a0:ae)(k a2:LI)(a3 a b f:Int)(g:Bool)(c:(List LT))(d:Nat):Option (LT×Int):=
 if decide (b<(k.length:Int)) then(dA k b>>=fun h=>if du .i64 (a-1) then(aS a h ([]:LT) (a-1) a0 k f g c d>>=fun i=>(match i with | (Sum.inl j)=>if du .i64 (b+1) then(fe a0 k a2 a3 a (b+1) f j c d) else none | (Sum.inr e)=>if du .i64 (b+1) then(fb a0 k a2 a3 a (b+1) e.1 e.2.1 c e.2.2.1 e.2.2.2) else none)) else none) else(if du .i64 (a+1) then(if decide (1≤d) then(dQ a0 k a2 a3 (a+1) f g (c++[([]:LT)]) (d-1)) else none) else none)
 partial_fixpoint
def jn (a0:ae)(j a2:LI)(a3 a b e:Int)(f:Bool)(c:(List LT))(d:Nat)(g:LT):Option (LT×Int):=
 if decide (b<(a2.length:Int)) then(if decide (a=1) then(dA a2 b>>=fun i=>dx 1 (Term.mk 2 i ([]:LT)) a0 j e f c d g>>=fun h=>if du .i64 (b+1) then(jn a0 j a2 a3 a (b+1) h.1 h.2.1 c d h.2.2) else none) else(fb a0 j a2 a3 a 0 e f c d g)) else(fb a0 j a2 a3 a 0 e f c d g)
 partial_fixpoint
end
set_option maxRecDepth 100000 in
theorem yj (a0:ae)(H a2:LI)(a3:Int):(∀ n P B C j o k r,fb a0 H a2 a3 n P B C j o k=some r→SX Tryz.prog (RQ (.bm [aT r.1,aI r.2])) (Ck a0 H a2 a3 n P B C j o k))∧(∀ Q I J K L r,dQ a0 H a2 a3 Q I J K L=some r→SX Tryz.prog (RQ (.bm [aT r.1,aI r.2])) (sE a0 H a2 a3 Q I J K L))∧(∀ u M p q m s r,jm a0 H a2 a3 u M p q m s=some r→SX Tryz.prog (RQ (.bm [aT r.1,aI r.2])) (sF a0 H a2 a3 u M p q m s))∧(∀ f N t w g i r,fe a0 H a2 a3 f N t w g i=some r→SX Tryz.prog (RQ (.bm [aT r.1,aI r.2])) (Cm a0 H a2 a3 f N t w g i))∧(∀ D R E F x A G r,jn a0 H a2 a3 D R E F x A G=some r→SX Tryz.prog (RQ (.bm [aT r.1,aI r.2])) (vu a0 H a2 a3 D R E F x A G)):=by
 refine fb.mutual_partial_correctness _ _ _ _ _ _ _ _ _ ?_ ?_ ?_ ?_ ?_
 · intro fb dQ a c n P B C j o k r h
   refine zL 3 (dX .i64) H ?_
   refine yB EE 0 h (fun c3000 h=>?_) (fun c3000 h=>?_)
   · refine yX EE 6 25 3 (Dv .i64) h fun x3001 ex3001 h=>?_
     refine yI EE 2 h fun c3005 h=>?_
     obtain⟨O,ev3002,h⟩:=bC h
     refine GU EE 0 (cR n x3001 ([]:LT) (n-1) a0 H B C j o k O ev3002 _ 4 [2,1,3] gw) ?_
     refine yI EE 3 h fun c3004 h=>?_
     exact xF EE rq 2 [[11,1,10,2,3,13]] [2,1,4] [(3,4)] 5 (a n (P+1) O.1 O.2.1 j O.2.2.1 O.2.2.2 r h)
   · refine yI EE 3 h fun c3006 h=>?_
     refine abr EE 2 3 1 (sz:=3) (sz2:=1) (rr:=o) (len:=k.length) (es:=(k.map ai)) (enc:=(iW ai)) (l:=j) (z:=.an) (y:=k) (by kernel_rfl) (by kernel_rfl) rfl (by kernel_rfl) (by kernel_rfl) (by first | rfl | (simp;done) | omega | (simp;omega)) (by kernel_rfl) ?_
     exact YP EE rq 0 [[2,10,11,1,3]] [2,1] [] 4 [[(2,aN a2),(10,aP 2),(11,aI (n+1)),(1,aN H),(3,aI a3)]] [(2,oR a0 H 1 (j.length+(1+o)) B C),(1,oZ (j++[k]) [] o)] (c (n+1) B C (j++[k]) o r h)
 · intro jm d Q I J K L r h
   refine yB EE 3 h (fun c2918 h=>?_) (fun c2918 h=>?_)
   · exact yK EE 4 [[2,10,11,1,3,12]] [2,1] (d Q 0 I J K L r h)
   · refine PZ EE 4 h (fun c3038 h=>?_) (fun c3038 h=>?_)
     · cases h
       exact nr EE 5 (v:=.bm [.an,aI 3]) (by kernel_rfl) (Fz.iH (.an) (.pure (by simp[aq,br,bH,aD,-List.map_append,-List.map_drop,-List.map_take,-List.map_set,-List.map_replicate])))
     · exact yK EE 5 [[14,15,10,3]] [2,1] ((yi a0 H a3 I J K L).2 1 r h)
 · intro jm fe jn d b e u M p q m s r h
   refine zL 3 (dX .i64) a2 ?_
   refine yB EE 0 h (fun c2950 h=>?_) (fun c2950 h=>?_)
   · refine yB EE 2 h (fun c2951 h=>?_) (fun c2951 h=>?_)
     · refine yX EE 6 25 3 (Dv .i64) h fun Y ex2952 h=>?_
       obtain⟨v2953,W,h⟩:=bC h
       rcases v2953 with y2954 | U
       · dsimp only at h
         refine GU EE 2 (eE 1 (Term.mk 2 Y ([]:LT)) a0 H p q m s _ W _ 3 [2,1] gw) ?_
         refine yI EE 3 h fun c2956 h=>?_
         exact yK EE 2 [[2,10,11,1,3,12]] [2,1] (d u (M+1) p true m s r h)
       · dsimp only at h
         refine GU EE 2 (eE 1 (Term.mk 2 Y ([]:LT)) a0 H p q m s _ W _ 3 [2,1] gw) ?_
         refine yI EE 3 h fun c3007 h=>?_
         exact yK EE 2 [[2,10,11,1,3,12]] [2,1,3] (e u (M+1) U.1 q m U.2.1 U.2.2 r h)
     · exact yK EE 4 [[11,1,10,2,3,13]] [2,1] (b u 0 p q m s r h)
   · exact yK EE 7 [[11,1,10,2,3,13]] [2,1] (b u 0 p q m s r h)
 · intro fb dQ fe a c b f N t w g i r h
   refine zL 3 (dX .i64) H ?_
   refine yB EE 0 h (fun c3026 h=>?_) (fun c3026 h=>?_)
   · refine yX EE 6 25 3 (Dv .i64) h fun Z ex3027 h=>?_
     refine yI EE 2 h fun c3035 h=>?_
     obtain⟨v3028,X,h⟩:=bC h
     rcases v3028 with y3029 | S
     · dsimp only at h
       refine GU EE 0 (cg f Z ([]:LT) (f-1) a0 H t w g i _ X _ 3 [2,1] gw) ?_
       refine yI EE 3 h fun c3031 h=>?_
       exact yK EE 2 [[11,1,10,2,3,13]] [2,1] (b f (N+1) t y3029 g i r h)
     · dsimp only at h
       refine GU EE 0 (cg f Z ([]:LT) (f-1) a0 H t w g i _ X _ 3 [2,1] gw) ?_
       refine yI EE 3 h fun c3034 h=>?_
       exact yK EE 2 [[11,1,10,2,3,13]] [2,1,3] (a f (N+1) S.1 S.2.1 g S.2.2.1 S.2.2.2 r h)
   · refine yI EE 3 h fun c3037 h=>?_
     obtain⟨V,h⟩:=kY h
     refine Qx EE 2 1 (sz:=1) (rr:=i) (enc:=(iW ai)) (l:=g) (y:=([]:LT)) (by kernel_rfl) (by kernel_rfl) V (by kernel_rfl) ?_
     have V:=of_decide_eq_true V
     exact YP EE rq 0 [[2,10,11,1,3]] [2,1] [] 3 [[(2,aN a2),(10,aP 2),(11,aI (f+1)),(1,aN H),(3,aI a3)]] [(2,oR a0 H 1 (g.length+(0+i)) t w),(1,oZ (g++[([]:LT)]) [] (i-1))] (c (f+1) t w (g++[([]:LT)]) (i-1) r h)
 · intro fb jn a e D R E F x A G r h
   refine zL 3 (dX .i64) a2 ?_
   refine yB EE 0 h (fun c2976 h=>?_) (fun c2976 h=>?_)
   · refine yB EE 2 h (fun c2977 h=>?_) (fun c2977 h=>?_)
     · refine yX EE 6 25 3 (Dv .i64) h fun x2978 ex2978 h=>?_
       obtain⟨T,ev2979,h⟩:=bC h
       refine GU EE 2 (jW 1 (Term.mk 2 x2978 ([]:LT)) a0 H E F x A G T ev2979 _ 4 [2,1,3] gw) ?_
       refine yI EE 3 h fun c2981 h=>?_
       exact xF EE rq 2 [[2,10,11,1,3,12]] [2,1,4] [(3,4)] 5 (e D (R+1) T.1 T.2.1 x A T.2.2 r h)
     · exact yK EE 4 [[11,1,10,2,3,13]] [2,1,3] (a D 0 E F x A G r h)
   · exact yK EE 7 [[11,1,10,2,3,13]] [2,1,3] (a D 0 E F x A G r h)
def kz (a0:ae)(e a2:LI)(a3:Int):Option (LT×Int):=
 sh a0>>=fun a=>if a then(if du .i64 ((a0.Cons.length:Int)-1) then(oC e 0 ((a0.Cons.length:Int)-1)>>=fun b=>if b then(if decide ((a2.length:Int)>8) then(some (([]:LT),2)) else(oC a2 (-1000000) 1000000>>=fun c=>if c then(xX a3 0 6>>=fun d=>if d then(if du .i64 (a3+1) then(if decide (0≤(a3+1)∧((a3+1):Int).toNat*25≤2 ^ 40) then(if decide (1≤(((a3+1):Int).toNat)) then(dQ a0 e a2 a3 1 0 false (([]:List LT)++[([]:LT)]) ((((a3+1):Int).toNat)-1)) else none) else none) else none) else(some (([]:LT),2))) else(some (([]:LT),2)))) else(some (([]:LT),2))) else none) else(some (([]:LT),2))
set_option maxRecDepth 100000 in
theorem Cr (a0:ae)(d a2:LI)(a3:Int)(r:(LT×Int))(h:kz a0 d a2 a3=some r):∀ S,dc Tryz.prog 7 [aG a0,aN d,aN a2,aI a3] S fun g i=>g=.ret (.bm [aT r.1,aI r.2])∧i=S:=by
 unfold kz at h
 refine yF EE ?_
 refine sK EE 6 (H8 a0) h (fun h=>?_) (fun h=>?_)
 · refine zL 5 bf a0.Cons ?_
   refine yI EE 0 h fun e h=>?_
   refine sK EE 0 (vq d 0 ((a0.Cons.length:Int)-1)) h (fun h=>?_) (fun h=>?_)
   · refine zL 4 (dX .i64) a2 ?_
     refine yB EE 0 h (fun c h=>?_) (fun c h=>?_)
     · cases h
       exact nr EE 16 (v:=.bm [.an,aI 2]) (by kernel_rfl) (Fz.iH (.an) (.pure (by simp[aq,br,bH,aD,-List.map_append,-List.map_drop,-List.map_take,-List.map_set,-List.map_replicate])))
     · refine sK EE 3 (vq a2 (-1000000) 1000000) h (fun h=>?_) (fun h=>?_)
       · refine sK EE 4 (Dg a3 0 6) h (fun h=>?_) (fun h=>?_)
         · refine yI EE 7 h fun f h=>?_
           obtain⟨a,h⟩:=kY h
           have a:=of_decide_eq_true a
           refine eo EE 0 (fun S=>abQ Tryz.prog S 93 (aI (a3+1)) (aI (a3+1))) (fun S=>.val (.aj 1 0 (((a3+1):Int).toNat)) (S.add (oZ ([]:List LT) [] (((a3+1):Int).toNat)))) (by kernel_rfl) (by kernel_rfl) (XR (enc:=(iW ai)) (el:=28) (bytes:=24) (by kernel_rfl) (by kernel_rfl) (by kernel_rfl) a) ?_
           obtain⟨b,h⟩:=kY h
           refine Qx EE 7 1 (sz:=1) (rr:=(((a3+1):Int).toNat)) (enc:=(iW ai)) (l:=([]:List LT)) (y:=([]:LT)) (by kernel_rfl) (by kernel_rfl) b (by kernel_rfl) ?_
           have b:=of_decide_eq_true b
           exact YP EE rq 0 [[2,10,11,1,3]] [2,1] [] 3 [[(2,aN a2),(10,aP 2),(11,aI 1),(1,aN d),(3,aI a3)]] [(2,oR a0 d 1 (((a3+1):Int).toNat) 0 false),(1,oZ (([]:List LT)++[([]:LT)]) [] ((((a3+1):Int).toNat)-1))] ((yj a0 d a2 a3).2.1 1 0 false (([]:List LT)++[([]:LT)]) ((((a3+1):Int).toNat)-1) r h)
         · cases h
           exact nr EE 7 (v:=.bm [.an,aI 2]) (by kernel_rfl) (Fz.iH (.an) (.pure (by simp[aq,br,bH,aD,-List.map_append,-List.map_drop,-List.map_take,-List.map_set,-List.map_replicate])))
       · cases h
         exact nr EE 12 (v:=.bm [.an,aI 2]) (by kernel_rfl) (Fz.iH (.an) (.pure (by simp[aq,br,bH,aD,-List.map_append,-List.map_drop,-List.map_take,-List.map_set,-List.map_replicate])))
   · cases h
     exact nr EE 22 (v:=.bm [.an,aI 2]) (by kernel_rfl) (Fz.iH (.an) (.pure (by simp[aq,br,bH,aD,-List.map_append,-List.map_drop,-List.map_take,-List.map_set,-List.map_replicate])))
 · cases h
   exact nr EE 30 (v:=.bm [.an,aI 2]) (by kernel_rfl) (Fz.iH (.an) (.pure (by simp[aq,br,bH,aD,-List.map_append,-List.map_drop,-List.map_take,-List.map_set,-List.map_replicate])))
end
end Go.Eng

/- The structures of the data and how they are laid; no conditions. -/
import Derived.Test.YtehhcejekfibpaaGreatVChkTab
import Derived.Test.YtehhcejekfibpaaGreatVEngD
import Derived.Test.YtehhcejekfibpaaGreatVEngE
import Derived.KernelRfl
set_option linter.unusedVariables false
set_option linter.unusedSimpArgs false
namespace Go.Eng
open Go.Proofs
theorem EE : bL T0 Tryz.prog:=⟨T0.ok,mixed⟩
end Go.Eng
namespace Go.Eng
structure bN where
 Name : ByteArray
 cU : Int
def aR (x:bN):AV:=.agg [.sc (.string x.Name),.sc (.int .i64 x.cU)]
@[simp] theorem Kk (x:bN):aq (aR x)=true:=by simp[aR,aq,bF,cC,aO]
@[simp] theorem Ks (σ:Nat→Nat)(x:bN):(aR x).aw σ=aR x:=AV.hZ (by simp)
def JX (x:bN):List AV:=[.sc (.string x.Name),.sc (.int .i64 x.cU)]
theorem bX : CS aR JX 2:=⟨fun _=>rfl,fun _=>rfl⟩
instance : Inhabited bN := ⟨.mk default default⟩
structure ae where
 Cons : (List bN)
 dI : (List bN)
def qy (x:ae):AV:=.agg [.lit (x.Cons.map aR),.lit (x.dI.map aR)]
@[simp] theorem Kt (x:ae):aq (qy x)=true:=by simp[qy,aq,bF,cC,aO]
@[simp] theorem Nj (σ:Nat→Nat)(x:ae):(qy x).aw σ=qy x:=AV.hZ (by simp)
def M5 (x:ae):List AV:=[.lit (x.Cons.map aR),.lit (x.dI.map aR)]
theorem YA : CS qy M5 2:=⟨fun _=>rfl,fun _=>rfl⟩
instance : Inhabited ae := ⟨.mk default default⟩
inductive Term where
 | mk (Op : Int) (N : Int) (Kids : (List Term))
def Term.Op : Term→Int
 | .mk x _ _=>x
def Term.N : Term→Int
 | .mk _ x _=>x
def Term.Kids : Term→(List Term)
 | .mk _ _ x=>x
mutual
def aj : Term→AV
 | .mk Op N Kids=>.agg [.sc (.int .i64 Op),.sc (.int .i64 N),.lit (oh Kids)]
def oh : List Term→List AV
 | []=>[]
 | t::l=>aj t::oh l
end
theorem xY (l:List Term):oh l=l.map aj:=by
 induction l with
 | nil=>simp[oh]
 | cons a l b=>simp[oh,b]
theorem jd (x:Term):(aj x).cells=[.sc (.int .i64 x.Op),.sc (.int .i64 x.N),.lit (x.Kids.map aj)]:=by
 cases x
 simp only[aj,xY,AV.cells]
 rfl
theorem sF (x:Term):aj x=.agg [.sc (.int .i64 x.Op),.sc (.int .i64 x.N),.lit (x.Kids.map aj)]:=by
 cases x
 simp only[aj,xY]
 rfl
mutual
@[simp] theorem Dy : ∀ x,aq (aj x)=true
 | .mk Op N Kids=>by simp[aj,aq,bF,uy,cC,aO]
theorem uy : ∀ l,bF (oh l)=true
 | []=>by simp[oh,bF]
 | t::l=>by simp[oh,bF,Dy t,uy l]
end
@[simp] theorem Qt (σ:Nat→Nat)(x:Term):(aj x).aw σ=aj x:=AV.hZ (by simp)
def Ev (x:Term):List AV:=[.sc (.int .i64 x.Op),.sc (.int .i64 x.N),.lit (x.Kids.map aj)]
theorem eB : CS aj Ev 3:=⟨jd,fun _=>rfl⟩
instance : Inhabited Term := ⟨.mk default default default⟩
structure bo where
 ae : ae
def j2 (x:bo):AV:=.agg [.lit (x.ae.Cons.map aR),.lit (x.ae.dI.map aR)]
@[simp] theorem Gb (x:bo):aq (j2 x)=true:=by simp[j2,aq,bF,cC,aO]
@[simp] theorem Gf (σ:Nat→Nat)(x:bo):(j2 x).aw σ=j2 x:=AV.hZ (by simp)
def BB (x:bo):List AV:=[.lit (x.ae.Cons.map aR),.lit (x.ae.dI.map aR)]
theorem Nk : CS j2 BB 2:=⟨fun _=>rfl,fun _=>rfl⟩
instance : Inhabited bo := ⟨.mk default⟩
end Go.Eng
namespace Go.Eng
open Go.Proofs
noncomputable abbrev sN := ab T0 Tryz.prog
end Go.Eng
namespace Go.Eng
open Go.Proofs
noncomputable section
abbrev LI := List Int
abbrev LT := List Term
abbrev LM := List (Int×LT)
abbrev TT := LT×LT
@[simp] abbrev aI (x:Int):AV:=.sc (.int .i64 x)
@[simp] abbrev aB (x:Bool):AV:=.sc (.bool x)
@[simp] abbrev aP (n:Nat):AV:=.ptr n 0 0
@[simp] abbrev aT (l:LT):AV:=.lit (l.map aj)
@[simp] abbrev aN (l:LI):AV:=.lit (l.map (dO .i64))
@[simp] abbrev aM (l:List bN):AV:=.lit (l.map aR)
@[simp] abbrev aG (t:ae):AV:=.agg [aM t.Cons,aM t.dI]
@[simp] abbrev aK (t:Term):AV:=.agg [aI t.Op,aI t.N,aT t.Kids]
@[simp] abbrev oA (v:AV):ai:=.arr 1 [v]
@[simp] abbrev oI (x:Int):ai:=.arr 1 [aI x]
@[simp] abbrev oP (n:Nat):ai:=.arr 1 [aP n]
@[simp] abbrev oY (n:Nat):ai:=.arr 1 [.nU n]
@[simp] abbrev oS (n l:Nat):ai:=.arr 1 [.ak n 0 l]
@[simp] abbrev oN : ai:=.arr 1 [.ax]
@[simp] abbrev oT (l:LT):ai:=.arr 3 (l.map aj)
@[simp] abbrev oG (t:ae):ai:=.arr 2 [aG t]
@[simp] abbrev oE (l:LM):ai:=.mp (l.map (dq (dO .i64) (kT aj)))
@[simp] abbrev oF (l:LM)(k:Int)(n z:Nat):ai:=.mp (l.map (dq (dO .i64) (kT aj))++[(aI k,.ak n 0 z)])
@[simp] abbrev oQ (t:ae)(l m:LI)(n:Nat):ai:=.arr 5 [.agg [aM t.Cons,aM t.dI,aN l,aN m,.dm n]]
@[simp] abbrev oR (t:ae)(l:LI)(n z:Nat)(k:Int)(b:Bool):ai:=.arr 6 [.agg [aM t.Cons,aM t.dI,aN l,.ak n 0 z,aI k,aB b]]
@[simp] noncomputable abbrev oV (a b c:Nat)(l:LI)(x y:Int)(d:Nat):ai:=jT Tryz.prog .ready 78 0 59 145804070215545263 [(3,aP a),(2,aP b),(1,aP c),(31,aN l),(32,aI x),(33,aI y),(7,aP d)]
@[simp] noncomputable abbrev oU (a b c:Nat)(l:LI)(x y:Int)(d:Nat):ai:=lV (some .ret) (jT Tryz.prog .done 78 0 59 145804070215545263 [(3,aP a),(2,aP b),(1,aP c),(31,aN l),(32,aI x),(33,aI y),(7,aP d)])
@[simp] noncomputable abbrev oW (a b c d e f:Nat)(x:Int):ai:=jT Tryz.prog .ready 7 0 90 38685648169276436639661855 [(11,aP a),(8,aP b),(9,aP c),(10,aP d),(12,aP e),(4,aP f),(3,aI x)]
@[simp] noncomputable abbrev oX (a b c d e f:Nat)(x:Int):ai:=lV (some .ret) (jT Tryz.prog .done 7 0 90 38685648169276436639661855 [(11,aP a),(8,aP b),(9,aP c),(10,aP d),(12,aP e),(4,aP f),(3,aI x)])
@[simp] abbrev oZ (l:List (List Term))(v:List AV)(k:Nat):ai:=.arr 1 (s6 (kT aj) l v k .ax)
end
end Go.Eng
namespace Go.Eng
open Go.Proofs
noncomputable section
theorem cT (x:Term):(aj x).cells.length=3:=by rw[jd];rfl
theorem QA (x:Term):(aj x).cells.all cV=true:=by rw[jd];rfl
theorem KQ {S:af}{i:Nat}{x:Term}(h:S.get i=some (.arr 3 [aK x])):gl S (.ak i 0 1)=some ([x].map aj):=MY (es:=[aK x]) (z:=3) (by simp[sF]) rfl h
abbrev tz : Term:=.mk 0 0 []
section
variable {Q : gI → af → Prop} {s : St} {R α : Type} {f : Option R} {r : R}
theorem zL (n:Nat)(enc:α→AV)(l:List α)(q:SX Tryz.prog Q (aF (aI (l.length:Int)) none (ab T0 Tryz.prog n s)))(h:Km Tryz.prog (ab T0 Tryz.prog n s)=some (aI ((l.map enc).length:Nat)):=by kernel_rfl):SX Tryz.prog Q s:=
 yn EE n _ _ h (O9 enc l) q
theorem Yg (n i nx:Nat)(x:Term)(h:(if decide ([x].length≤1048576) then f else none)=some r)(q:f=some r→SX Tryz.prog Q (jG (fun S=>.val (.ak nx 0 [x].length) (S.add (oT [x]))) (ab T0 Tryz.prog n s)))
  (a:vo Tryz.prog (ab T0 Tryz.prog n s)=rK Tryz.prog (eA (ab T0 Tryz.prog n s)) 27 27 .ax (.ak i 0 1):=by kernel_rfl) (b:n0 (.val (.ak nx 0 [x].length) ((eA (ab T0 Tryz.prog n s)).add (oT [x]))) (ab T0 Tryz.prog n s)=true:=by kernel_rfl)
  (c:(eA (ab T0 Tryz.prog n s)).get i=some (.arr 3 [aK x]):=by kernel_rfl) (d:(eA (ab T0 Tryz.prog n s)).nx=nx:=by kernel_rfl) (e:(Nat.ble ((eA (ab T0 Tryz.prog n s)).nx+1) 8192&&Nat.ble (eA (ab T0 Tryz.prog n s)).lim (eA (ab T0 Tryz.prog n s)).nx)=true:=by kernel_rfl):SX Tryz.prog Q s:=
 gO EE n (fun S=>rK Tryz.prog S 27 27 .ax (.ak i 0 1)) (fun S=>.val (.ak nx 0 [x].length) (S.add (oT [x]))) a b (vO (enc:=aj) (el:=29) (sz:=3) (ys:=[x]) (.inl rfl) (by kernel_rfl) (by kernel_rfl) cT QA (KQ c) d e (by simp) (of_decide_eq_true (q8 h).1)) (q (q8 h).2)
theorem YK (n id i nx:Nat)(xs:LT)(x:Term)(h:(if decide (xs.length+[x].length≤1048576) then f else none)=some r)(q:f=some r→SX Tryz.prog Q (jG (fun S=>.val (.ak nx 0 (xs++[x]).length) ((S.del id).add (oT (xs++[x])))) (ab T0 Tryz.prog n s)))
  (b:vo Tryz.prog (ab T0 Tryz.prog n s)=rK Tryz.prog (eA (ab T0 Tryz.prog n s)) 27 27 (.ak id 0 xs.length) (.ak i 0 1):=by kernel_rfl) (c:n0 (.val (.ak nx 0 (xs++[x]).length) (((eA (ab T0 Tryz.prog n s)).del id).add (oT (xs++[x])))) (ab T0 Tryz.prog n s)=true:=by kernel_rfl)
  (d:(eA (ab T0 Tryz.prog n s)).get id=some (oT xs):=by kernel_rfl) (e:(eA (ab T0 Tryz.prog n s)).get i=some (.arr 3 [aK x]):=by kernel_rfl) (g:(eA (ab T0 Tryz.prog n s)).nx=nx:=by kernel_rfl)
  (j:(Nat.ble ((eA (ab T0 Tryz.prog n s)).nx+1) 8192&&Nat.ble (eA (ab T0 Tryz.prog n s)).lim (eA (ab T0 Tryz.prog n s)).nx)=true:=by kernel_rfl) (a:Nat.ble (eA (ab T0 Tryz.prog n s)).lim id=true:=by kernel_rfl):SX Tryz.prog Q s:=
 gO EE n (fun S=>rK Tryz.prog S 27 27 (.ak id 0 xs.length) (.ak i 0 1)) (fun S=>.val (.ak nx 0 (xs++[x]).length) ((S.del id).add (oT (xs++[x])))) b c (zj (enc:=aj) (el:=29) (sz:=3) (xs:=xs) (ys:=[x]) (by kernel_rfl) (by kernel_rfl) cT QA d (KQ e) rfl g j a (by simp) (of_decide_eq_true (q8 h).1)) (q (q8 h).2)
theorem YL (n id i nx:Nat)(xs:LT)(h:(if decide (xs.length+[tz].length≤1048576) then f else none)=some r)(q:f=some r→SX Tryz.prog Q (jG (fun S=>.val (.ak nx 0 (xs++[tz]).length) ((S.del id).add (oT (xs++[tz])))) (ab T0 Tryz.prog n s)))
  (b:vo Tryz.prog (ab T0 Tryz.prog n s)=rK Tryz.prog (eA (ab T0 Tryz.prog n s)) 27 27 (.ak id 0 xs.length) (.ak i 0 1):=by kernel_rfl) (c:((cO (ab T0 Tryz.prog n s)).bind (·.dst)).isSome=true:=by kernel_rfl)
  (d:(eA (ab T0 Tryz.prog n s)).get id=some (oT xs):=by kernel_rfl) (e:gl (eA (ab T0 Tryz.prog n s)) (.ak i 0 1)=some [.agg [aI 0,aI 0,.ax]]:=by kernel_rfl) (g:(eA (ab T0 Tryz.prog n s)).nx=nx:=by kernel_rfl)
  (j:(Nat.ble ((eA (ab T0 Tryz.prog n s)).nx+1) 8192&&Nat.ble (eA (ab T0 Tryz.prog n s)).lim (eA (ab T0 Tryz.prog n s)).nx)=true:=by kernel_rfl) (a:Nat.ble (eA (ab T0 Tryz.prog n s)).lim id=true:=by kernel_rfl):SX Tryz.prog Q s:=
 Zy EE n (fun S=>rK Tryz.prog S 27 27 (.ak id 0 xs.length) (.ak i 0 1)) (.ak nx 0 (xs++[tz]).length) (fun S=>(S.del id).add (oT (xs++[tz]))) b c (MT (enc:=aj) (el:=29) (sz:=3) (xs:=xs) (ys:=[tz]) (raw:=[.agg [aI 0,aI 0,.ax]]) (by kernel_rfl) (by kernel_rfl) cT QA (by kernel_rfl) d e (by kernel_rfl) rfl g j a (by simp) (of_decide_eq_true (q8 h).1)) (q (q8 h).2)
theorem aqq (n i nx:Nat)(h:(if decide ([tz].length≤1048576) then f else none)=some r)(q:f=some r→SX Tryz.prog Q (jG (fun S=>.val (.ak nx 0 [tz].length) (S.add (oT [tz]))) (ab T0 Tryz.prog n s)))
  (a:vo Tryz.prog (ab T0 Tryz.prog n s)=rK Tryz.prog (eA (ab T0 Tryz.prog n s)) 27 27 .ax (.ak i 0 1):=by kernel_rfl) (b:((cO (ab T0 Tryz.prog n s)).bind (·.dst)).isSome=true:=by kernel_rfl)
  (c:gl (eA (ab T0 Tryz.prog n s)) (.ak i 0 1)=some [.agg [aI 0,aI 0,.ax]]:=by kernel_rfl) (d:(eA (ab T0 Tryz.prog n s)).nx=nx:=by kernel_rfl)
  (e:(Nat.ble ((eA (ab T0 Tryz.prog n s)).nx+1) 8192&&Nat.ble (eA (ab T0 Tryz.prog n s)).lim (eA (ab T0 Tryz.prog n s)).nx)=true:=by kernel_rfl):SX Tryz.prog Q s:=
 Zy EE n (fun S=>rK Tryz.prog S 27 27 .ax (.ak i 0 1)) (.ak nx 0 [tz].length) (fun S=>S.add (oT [tz])) a b (MS (enc:=aj) (el:=29) (sz:=3) (ys:=[tz]) (raw:=[.agg [aI 0,aI 0,.ax]]) (.inl rfl) (by kernel_rfl) (by kernel_rfl) (by kernel_rfl) c (by kernel_rfl) d e (by simp) (of_decide_eq_true (q8 h).1)) (q (q8 h).2)
theorem atj (n i:Nat)(x:Term)(h:(if decide ([x].length≤1048576) then f else none)=some r)(q:f=some r→SX Tryz.prog Q (jG (fun S=>.val (.lit ([x].map aj)) (bump S)) (ab T0 Tryz.prog n s)))
  (b:vo Tryz.prog (ab T0 Tryz.prog n s)=rK Tryz.prog (eA (ab T0 Tryz.prog n s)) 27 27 .ax (.ak i 0 1):=by kernel_rfl) (c:((cO (ab T0 Tryz.prog n s)).bind (·.dst)).isSome=true:=by kernel_rfl) (a:Nat.ble (eA (ab T0 Tryz.prog n s)).lim (eA (ab T0 Tryz.prog n s)).nx=true:=by kernel_rfl)
  (d:(eA (ab T0 Tryz.prog n s)).get i=some (.arr 3 [aK x]):=by kernel_rfl) (e:(Nat.ble ((eA (ab T0 Tryz.prog n s)).nx+1) 8192&&Nat.ble (eA (ab T0 Tryz.prog n s)).lim (eA (ab T0 Tryz.prog n s)).nx)=true:=by kernel_rfl):SX Tryz.prog Q s:=
 LU EE n (fun S=>rK Tryz.prog S 27 27 .ax (.ak i 0 1)) ([x].map aj) b c a (XD (enc:=aj) (el:=29) (sz:=3) (xs:=[x]) (.inl rfl) (by kernel_rfl) (by kernel_rfl) cT QA (KQ d) e (of_decide_eq_true (q8 h).1)) (q (q8 h).2)
theorem YM (n i:Nat)(zs:LT)(x:Term)(h:(if decide ((zs++[x]).length≤1048576) then f else none)=some r)(q:f=some r→SX Tryz.prog Q (jG (fun S=>.val (.lit ((zs++[x]).map aj)) (bump S)) (ab T0 Tryz.prog n s)))
  (b:vo Tryz.prog (ab T0 Tryz.prog n s)=rK Tryz.prog (eA (ab T0 Tryz.prog n s)) 27 27 (.clip (aT zs)) (.ak i 0 1):=by kernel_rfl) (c:((cO (ab T0 Tryz.prog n s)).bind (·.dst)).isSome=true:=by kernel_rfl) (a:Nat.ble (eA (ab T0 Tryz.prog n s)).lim (eA (ab T0 Tryz.prog n s)).nx=true:=by kernel_rfl)
  (d:(eA (ab T0 Tryz.prog n s)).get i=some (.arr 3 [aK x]):=by kernel_rfl) (e:(Nat.ble ((eA (ab T0 Tryz.prog n s)).nx+1) 8192&&Nat.ble (eA (ab T0 Tryz.prog n s)).lim (eA (ab T0 Tryz.prog n s)).nx)=true:=by kernel_rfl):SX Tryz.prog Q s:=
 LU EE n (fun S=>rK Tryz.prog S 27 27 (.clip (aT zs)) (.ak i 0 1)) ((zs++[x]).map aj) b c a (Pr (enc:=aj) (el:=29) (sz:=3) (zs:=zs) (xs:=[x]) (by kernel_rfl) (by kernel_rfl) cT QA rfl (KQ d) e (q8 h).1 (by simp)) (q (q8 h).2)
theorem atk (n id:Nat)(xs ys:LT)(h:(if decide (xs.length+ys.length≤1048576) then f else none)=some r)(q:f=some r→SX Tryz.prog Q (jG (fun S=>.val (.lit ((xs++ys).map aj)) (bump (S.del id))) (ab T0 Tryz.prog n s)))
  (b:vo Tryz.prog (ab T0 Tryz.prog n s)=rK Tryz.prog (eA (ab T0 Tryz.prog n s)) 27 27 (.ak id 0 xs.length) (aT ys):=by kernel_rfl) (c:((cO (ab T0 Tryz.prog n s)).bind (·.dst)).isSome=true:=by kernel_rfl)
  (d:(eA (ab T0 Tryz.prog n s)).get id=some (oT xs):=by kernel_rfl) (e:(Nat.ble ((eA (ab T0 Tryz.prog n s)).nx+1) 8192&&Nat.ble (eA (ab T0 Tryz.prog n s)).lim (eA (ab T0 Tryz.prog n s)).nx)=true:=by kernel_rfl)
  (a:Nat.ble (eA (ab T0 Tryz.prog n s)).lim id=true:=by kernel_rfl) (hi:Nat.ble (id+1) (eA (ab T0 Tryz.prog n s)).nx=true:=by kernel_rfl):SX Tryz.prog Q s:=
 Qj EE n (fun S=>rK Tryz.prog S 27 27 (.ak id 0 xs.length) (aT ys)) (es:=(xs++ys).map aj) (fun S=>bump (S.del id)) b c (LZ (enc:=aj) (el:=29) (sz:=3) (xs:=xs) (ys:=ys) (by kernel_rfl) (by kernel_rfl) cT QA d rfl rfl e a hi (q8 h).1) (q (q8 h).2)
theorem atl (n id i:Nat)(xs:LT)(x:Term)(h:(if decide (xs.length+[x].length≤1048576) then f else none)=some r)(q:f=some r→SX Tryz.prog Q (jG (fun S=>.val (.lit ((xs++[x]).map aj)) (bump (S.del id))) (ab T0 Tryz.prog n s)))
  (b:vo Tryz.prog (ab T0 Tryz.prog n s)=rK Tryz.prog (eA (ab T0 Tryz.prog n s)) 27 27 (.ak id 0 xs.length) (.ak i 0 1):=by kernel_rfl) (c:((cO (ab T0 Tryz.prog n s)).bind (·.dst)).isSome=true:=by kernel_rfl)
  (d:(eA (ab T0 Tryz.prog n s)).get id=some (oT xs):=by kernel_rfl) (e:(eA (ab T0 Tryz.prog n s)).get i=some (.arr 3 [aK x]):=by kernel_rfl) (g:(Nat.ble ((eA (ab T0 Tryz.prog n s)).nx+1) 8192&&Nat.ble (eA (ab T0 Tryz.prog n s)).lim (eA (ab T0 Tryz.prog n s)).nx)=true:=by kernel_rfl)
  (a:Nat.ble (eA (ab T0 Tryz.prog n s)).lim id=true:=by kernel_rfl) (hi:Nat.ble (id+1) (eA (ab T0 Tryz.prog n s)).nx=true:=by kernel_rfl):SX Tryz.prog Q s:=
 Qj EE n (fun S=>rK Tryz.prog S 27 27 (.ak id 0 xs.length) (.ak i 0 1)) (es:=(xs++[x]).map aj) (fun S=>bump (S.del id)) b c (LZ (enc:=aj) (el:=29) (sz:=3) (xs:=xs) (ys:=[x]) (by kernel_rfl) (by kernel_rfl) cT QA d (KQ e) rfl g a hi (q8 h).1) (q (q8 h).2)
variable {l : List LT} {i : Int}
theorem atm (n id:Nat)(V:List AV)(k:Nat){F:LT→Option R}(h:(dY l i>>=F)=some r)(q:∀ x,dY l i=some x→F x=some r→SX Tryz.prog Q (xE (fun S=>.val (aT x) S) (ab T0 Tryz.prog n s)))(b:KP Tryz.prog (ab T0 Tryz.prog n s)=Ko Tryz.prog (yp (ab T0 Tryz.prog n s)) 27 (.ptr id (0+i.toNat) 0):=by kernel_rfl)(c:∀ x,n0 (.val (aT x) (yp (ab T0 Tryz.prog n s))) (ab T0 Tryz.prog n s)=true:=by intro x;kernel_rfl)(d:(yp (ab T0 Tryz.prog n s)).get id=some (oZ l V k):=by kernel_rfl):SX Tryz.prog Q s:=by
 obtain⟨x,a,h⟩:=bT h
 exact wW EE n (fun S=>Ko Tryz.prog S 27 (.ptr id (0+i.toNat) 0)) (fun S=>.val (aT x) S) b (c x) (IE (enc:=kT aj) (l:=l) (V0:=V) (r:=k) (z:=.ax) (n:=1) a d rfl (by kernel_rfl)) (q x a h)
theorem atn (n id:Nat)(V:List AV)(k:Nat){F:LT→Option R}(h:(dY l i>>=F)=some r)(q:∀ x,dY l i=some x→F x=some r→SX Tryz.prog Q (jG (fun S=>.val (aT x) S) (ab T0 Tryz.prog n s)))(b:vo Tryz.prog (ab T0 Tryz.prog n s)=Ko Tryz.prog (eA (ab T0 Tryz.prog n s)) 27 (.ptr id (0+i.toNat) 0):=by kernel_rfl)(c:∀ x,n0 (.val (aT x) (eA (ab T0 Tryz.prog n s))) (ab T0 Tryz.prog n s)=true:=by intro x;kernel_rfl)(d:(eA (ab T0 Tryz.prog n s)).get id=some (oZ l V k):=by kernel_rfl):SX Tryz.prog Q s:=by
 obtain⟨x,a,h⟩:=bT h
 exact gO EE n (fun S=>Ko Tryz.prog S 27 (.ptr id (0+i.toNat) 0)) (fun S=>.val (aT x) S) b (c x) (IE (enc:=kT aj) (l:=l) (V0:=V) (r:=k) (z:=.ax) (n:=1) a d rfl (by kernel_rfl)) (q x a h)
variable {xs : LT}
theorem QB (n id:Nat){F:Term→Option R}(h:(dY xs i>>=F)=some r)(q:∀ x,dY xs i=some x→F x=some r→SX Tryz.prog Q (xE (fun S=>.val (.ptr id (0+i.toNat) 0) S) (ab T0 Tryz.prog n s)))(b:KP Tryz.prog (ab T0 Tryz.prog n s)=NA Tryz.prog (yp (ab T0 Tryz.prog n s)) 27 (.ak id 0 xs.length) (aI i):=by kernel_rfl)(c:n0 (.val (.ptr id (0+i.toNat) 0) (yp (ab T0 Tryz.prog n s))) (ab T0 Tryz.prog n s)=true:=by kernel_rfl)(d:(yp (ab T0 Tryz.prog n s)).get id=some (oT xs):=by kernel_rfl):SX Tryz.prog Q s:=by
 obtain⟨x,a,h⟩:=bT h
 exact wW EE n (fun S=>NA Tryz.prog S 27 (.ak id 0 xs.length) (aI i)) (fun S=>.val (.ptr id (0+i.toNat) 0) S) b c (GN (xs:=xs) (es:=xs.map aj) (el:=29) (n:=3) a rfl (by kernel_rfl) (by kernel_rfl) d) (q x a h)
theorem ato (n id:Nat){F:Term→Option R}(h:(dY xs i>>=F)=some r)(q:∀ x,dY xs i=some x→F x=some r→SX Tryz.prog Q (jG (fun S=>.val (.ptr id (0+i.toNat) 0) S) (ab T0 Tryz.prog n s)))(b:vo Tryz.prog (ab T0 Tryz.prog n s)=NA Tryz.prog (eA (ab T0 Tryz.prog n s)) 27 (.ak id 0 xs.length) (aI i):=by kernel_rfl)(c:n0 (.val (.ptr id (0+i.toNat) 0) (eA (ab T0 Tryz.prog n s))) (ab T0 Tryz.prog n s)=true:=by kernel_rfl)(d:(eA (ab T0 Tryz.prog n s)).get id=some (oT xs):=by kernel_rfl):SX Tryz.prog Q s:=by
 obtain⟨x,a,h⟩:=bT h
 exact gO EE n (fun S=>NA Tryz.prog S 27 (.ak id 0 xs.length) (aI i)) (fun S=>.val (.ptr id (0+i.toNat) 0) S) b c (GN (xs:=xs) (es:=xs.map aj) (el:=29) (n:=3) a rfl (by kernel_rfl) (by kernel_rfl) d) (q x a h)
theorem QC (n id:Nat)(x' : Term){F:Term→Option R}(h:(dY xs i>>=F)=some r)(q:∀ x,F x=some r→SX Tryz.prog Q (jG (fun S=>.skip (S.set id (oT (xs.set i.toNat x')))) (ab T0 Tryz.prog n s)))(a:vo Tryz.prog (ab T0 Tryz.prog n s)=PG Tryz.prog (eA (ab T0 Tryz.prog n s)) 29 (.ptr id (0+i.toNat) 0) (aK x'):=by kernel_rfl)(b:n0 (.skip ((eA (ab T0 Tryz.prog n s)).set id (oT (xs.set i.toNat x')))) (ab T0 Tryz.prog n s)=true:=by kernel_rfl)(c:(eA (ab T0 Tryz.prog n s)).get id=some (oT xs):=by kernel_rfl)(d:Nat.ble (eA (ab T0 Tryz.prog n s)).lim id=true:=by kernel_rfl):SX Tryz.prog Q s:=by
 obtain⟨x,e,h⟩:=bT h
 exact gO EE n (fun S=>PG Tryz.prog S 29 (.ptr id (0+i.toNat) 0) (aK x')) (fun S=>.skip (S.set id (oT (xs.set i.toNat x')))) a b (XB (n:=3) (m:=3) (enc:=aj) (xs:=xs) (i:=i) (x' := x') e c (jd x) (by kernel_rfl) (by simp only[d,Bool.and_true];rfl) (sF _).symm) (q x h)
end
end
end Go.Eng

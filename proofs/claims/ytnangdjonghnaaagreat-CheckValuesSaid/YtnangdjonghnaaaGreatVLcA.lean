/- The structures of the data and how they are laid; no conditions. -/
import Derived.Test.YtnangdjonghnaaaGreatVChkTab
import Derived.Test.YtnangdjonghnaaaGreatVEngD
import Derived.Test.YtnangdjonghnaaaGreatVEngE
import Derived.KernelRfl
set_option linter.unusedVariables false
set_option linter.unusedSimpArgs false
namespace Go.Eng
open Go.Proofs
theorem EE : bZ T0 Tryz.prog:=⟨T0.ok,mixed⟩
end Go.Eng
namespace Go.Eng
structure bK where
 Name : ByteArray
 dF : Int
def bf (x:bK):AV:=.agg [.sc (.string x.Name),.sc (.int .i64 x.dF)]
@[simp] theorem KJ (x:bK):aq (bf x)=true:=by simp[bf,aq,br,bH,aD]
@[simp] theorem KS (σ:Nat→Nat)(x:bK):(bf x).ax σ=bf x:=AV.iG (by simp)
def Ko (x:bK):List AV:=[.sc (.string x.Name),.sc (.int .i64 x.dF)]
theorem cB : CS bf Ko 2:=⟨fun _=>rfl,fun _=>rfl⟩
instance : Inhabited bK := ⟨.mk default default⟩
structure ae where
 Cons : (List bK)
 gR : (List bK)
def rz (x:ae):AV:=.agg [.lit (x.Cons.map bf),.lit (x.gR.map bf)]
@[simp] theorem KT (x:ae):aq (rz x)=true:=by simp[rz,aq,br,bH,aD]
@[simp] theorem ND (σ:Nat→Nat)(x:ae):(rz x).ax σ=rz x:=AV.iG (by simp)
def Nr (x:ae):List AV:=[.lit (x.Cons.map bf),.lit (x.gR.map bf)]
theorem YF : CS rz Nr 2:=⟨fun _=>rfl,fun _=>rfl⟩
instance : Inhabited ae := ⟨.mk default default⟩
inductive Term where
 | mk (Op : Int) (N : Int) (Kids : (List Term))
def Term.Op : Term→Int
 | .mk x _ _=>x
def Term.N : Term→Int
 | .mk _ x _=>x
def Term.Kids : Term→(List Term)
 | .mk _ _ x=>x
mutual
def ai : Term→AV
 | .mk Op N Kids=>.agg [.sc (.int .i64 Op),.sc (.int .i64 N),.lit (pG Kids)]
def pG : List Term→List AV
 | []=>[]
 | t::l=>ai t::pG l
end
theorem yY (l:List Term):pG l=l.map ai:=by
 induction l with
 | nil=>simp[pG]
 | cons a l b=>simp[pG,b]
theorem bw (x:Term):(ai x).cells=[.sc (.int .i64 x.Op),.sc (.int .i64 x.N),.lit (x.Kids.map ai)]:=by
 cases x
 simp only[ai,yY,AV.cells]
 rfl
theorem tD (x:Term):ai x=.agg [.sc (.int .i64 x.Op),.sc (.int .i64 x.N),.lit (x.Kids.map ai)]:=by
 cases x
 simp only[ai,yY]
 rfl
mutual
@[simp] theorem Ev : ∀ x,aq (ai x)=true
 | .mk Op N Kids=>by simp[ai,aq,br,vo,bH,aD]
theorem vo : ∀ l,br (pG l)=true
 | []=>by simp[pG,br]
 | t::l=>by simp[pG,br,Ev t,vo l]
end
@[simp] theorem QH (σ:Nat→Nat)(x:Term):(ai x).ax σ=ai x:=AV.iG (by simp)
def Fx (x:Term):List AV:=[.sc (.int .i64 x.Op),.sc (.int .i64 x.N),.lit (x.Kids.map ai)]
theorem ez : CS ai Fx 3:=⟨bw,fun _=>rfl⟩
instance : Inhabited Term := ⟨.mk default default default⟩
structure bE where
 ae : ae
def kD (x:bE):AV:=.agg [.lit (x.ae.Cons.map bf),.lit (x.ae.gR.map bf)]
@[simp] theorem GO (x:bE):aq (kD x)=true:=by simp[kD,aq,br,bH,aD]
@[simp] theorem GR (σ:Nat→Nat)(x:bE):(kD x).ax σ=kD x:=AV.iG (by simp)
def Cc (x:bE):List AV:=[.lit (x.ae.Cons.map bf),.lit (x.ae.gR.map bf)]
theorem NF : CS kD Cc 2:=⟨fun _=>rfl,fun _=>rfl⟩
instance : Inhabited bE := ⟨.mk default⟩
end Go.Eng
namespace Go.Eng
open Go.Proofs
noncomputable abbrev sN := ab T0 Tryz.prog
end Go.Eng
namespace Go.Eng
open Go.Proofs
noncomputable section
abbrev LI := List Int
abbrev LT := List Term
abbrev LM := List (Int×LT)
abbrev TT := LT×LT
@[simp] abbrev aI (x:Int):AV:=.sc (.int .i64 x)
@[simp] abbrev aB (x:Bool):AV:=.sc (.bool x)
@[simp] abbrev aP (n:Nat):AV:=.ptr n 0 0
@[simp] abbrev aT (l:LT):AV:=.lit (l.map ai)
@[simp] abbrev aN (l:LI):AV:=.lit (l.map (dX .i64))
@[simp] abbrev aM (l:List bK):AV:=.lit (l.map bf)
@[simp] abbrev aG (t:ae):AV:=.agg [aM t.Cons,aM t.gR]
@[simp] abbrev aK (t:Term):AV:=.agg [aI t.Op,aI t.N,aT t.Kids]
@[simp] abbrev oA (v:AV):ak:=.arr 1 [v]
@[simp] abbrev oI (x:Int):ak:=.arr 1 [aI x]
@[simp] abbrev oP (n:Nat):ak:=.arr 1 [aP n]
@[simp] abbrev oY (n:Nat):ak:=.arr 1 [.pq n]
@[simp] abbrev oS (n l:Nat):ak:=.arr 1 [.aj n 0 l]
@[simp] abbrev oN : ak:=.arr 1 [.an]
@[simp] abbrev oT (l:LT):ak:=.arr 3 (l.map ai)
@[simp] abbrev oG (t:ae):ak:=.arr 2 [aG t]
@[simp] abbrev oE (l:LM):ak:=.mp (l.map (dL (dX .i64) (iW ai)))
@[simp] abbrev oF (l:LM)(k:Int)(n z:Nat):ak:=.mp (l.map (dL (dX .i64) (iW ai))++[(aI k,.aj n 0 z)])
@[simp] abbrev oQ (t:ae)(l m:LI)(n:Nat):ak:=.arr 5 [.agg [aM t.Cons,aM t.gR,aN l,aN m,.dJ n]]
@[simp] abbrev oR (t:ae)(l:LI)(n z:Nat)(k:Int)(b:Bool):ak:=.arr 6 [.agg [aM t.Cons,aM t.gR,aN l,.aj n 0 z,aI k,aB b]]
@[simp] noncomputable abbrev oV (a b c:Nat)(l:LI)(x y:Int)(d:Nat):ak:=kq Tryz.prog .ready 73 0 59 145804070215545263 [(3,aP a),(2,aP b),(1,aP c),(31,aN l),(32,aI x),(33,aI y),(7,aP d)]
@[simp] noncomputable abbrev oU (a b c:Nat)(l:LI)(x y:Int)(d:Nat):ak:=mF (some .ret) (kq Tryz.prog .done 73 0 59 145804070215545263 [(3,aP a),(2,aP b),(1,aP c),(31,aN l),(32,aI x),(33,aI y),(7,aP d)])
@[simp] noncomputable abbrev oW (a b c d e f:Nat)(x:Int):ak:=kq Tryz.prog .ready 6 0 90 38685648169276436639661855 [(11,aP a),(8,aP b),(9,aP c),(10,aP d),(12,aP e),(4,aP f),(3,aI x)]
@[simp] noncomputable abbrev oX (a b c d e f:Nat)(x:Int):ak:=mF (some .ret) (kq Tryz.prog .done 6 0 90 38685648169276436639661855 [(11,aP a),(8,aP b),(9,aP c),(10,aP d),(12,aP e),(4,aP f),(3,aI x)])
@[simp] abbrev oZ (l:List (List Term))(v:List AV)(k:Nat):ak:=.arr 1 (tX (iW ai) l v k .an)
end
end Go.Eng
namespace Go.Eng
open Go.Proofs
noncomputable section
theorem cT (x:Term):(ai x).cells.length=3:=by rw[bw];rfl
theorem QO (x:Term):(ai x).cells.all dj=true:=by rw[bw];rfl
theorem Le {S:af}{i:Nat}{x:Term}(h:S.get i=some (.arr 3 [aK x])):gH S (.aj i 0 1)=some ([x].map ai):=Nk (es:=[aK x]) (z:=3) (by simp[tD]) rfl h
abbrev tz : Term:=.mk 0 0 []
section
variable {Q : ic → af → Prop} {s : St} {R α : Type} {f : Option R} {r : R}
theorem zL (n:Nat)(enc:α→AV)(l:List α)(q:SX Tryz.prog Q (aA (aI (l.length:Int)) none (ab T0 Tryz.prog n s)))(h:KL Tryz.prog (ab T0 Tryz.prog n s)=some (aI ((l.map enc).length:Nat)):=by kernel_rfl):SX Tryz.prog Q s:=
 zg EE n _ _ h (Pq enc l) q
theorem NN (n i nx:Nat)(x:Term)(h:(if decide ([x].length≤1048576) then f else none)=some r)(q:f=some r→SX Tryz.prog Q (fB (fun S=>.val (.aj nx 0 [x].length) (S.add (oT [x]))) (ab T0 Tryz.prog n s)))
  (a:wB Tryz.prog (ab T0 Tryz.prog n s)=pt Tryz.prog (eM (ab T0 Tryz.prog n s)) 28 28 .an (.aj i 0 1):=by kernel_rfl) (b:nk (.val (.aj nx 0 [x].length) ((eM (ab T0 Tryz.prog n s)).add (oT [x]))) (ab T0 Tryz.prog n s)=true:=by kernel_rfl)
  (c:(eM (ab T0 Tryz.prog n s)).get i=some (.arr 3 [aK x]):=by kernel_rfl) (d:(eM (ab T0 Tryz.prog n s)).nx=nx:=by kernel_rfl) (e:(Nat.ble ((eM (ab T0 Tryz.prog n s)).nx+1) 8192&&Nat.ble (eM (ab T0 Tryz.prog n s)).lim (eM (ab T0 Tryz.prog n s)).nx)=true:=by kernel_rfl):SX Tryz.prog Q s:=
 eo EE n (fun S=>pt Tryz.prog S 28 28 .an (.aj i 0 1)) (fun S=>.val (.aj nx 0 [x].length) (S.add (oT [x]))) a b (pd (enc:=ai) (el:=50) (sz:=3) (ys:=[x]) (.inl rfl) (by kernel_rfl) (by kernel_rfl) cT QO (Le c) d e (by simp) (of_decide_eq_true (kY h).1)) (q (kY h).2)
theorem P0 (n id i nx:Nat)(xs:LT)(x:Term)(h:(if decide (xs.length+[x].length≤1048576) then f else none)=some r)(q:f=some r→SX Tryz.prog Q (fB (fun S=>.val (.aj nx 0 (xs++[x]).length) ((S.del id).add (oT (xs++[x])))) (ab T0 Tryz.prog n s)))
  (b:wB Tryz.prog (ab T0 Tryz.prog n s)=pt Tryz.prog (eM (ab T0 Tryz.prog n s)) 28 28 (.aj id 0 xs.length) (.aj i 0 1):=by kernel_rfl) (c:nk (.val (.aj nx 0 (xs++[x]).length) (((eM (ab T0 Tryz.prog n s)).del id).add (oT (xs++[x])))) (ab T0 Tryz.prog n s)=true:=by kernel_rfl)
  (d:(eM (ab T0 Tryz.prog n s)).get id=some (oT xs):=by kernel_rfl) (e:(eM (ab T0 Tryz.prog n s)).get i=some (.arr 3 [aK x]):=by kernel_rfl) (g:(eM (ab T0 Tryz.prog n s)).nx=nx:=by kernel_rfl)
  (j:(Nat.ble ((eM (ab T0 Tryz.prog n s)).nx+1) 8192&&Nat.ble (eM (ab T0 Tryz.prog n s)).lim (eM (ab T0 Tryz.prog n s)).nx)=true:=by kernel_rfl) (a:Nat.ble (eM (ab T0 Tryz.prog n s)).lim id=true:=by kernel_rfl):SX Tryz.prog Q s:=
 eo EE n (fun S=>pt Tryz.prog S 28 28 (.aj id 0 xs.length) (.aj i 0 1)) (fun S=>.val (.aj nx 0 (xs++[x]).length) ((S.del id).add (oT (xs++[x])))) b c (zX (enc:=ai) (el:=50) (sz:=3) (xs:=xs) (ys:=[x]) (by kernel_rfl) (by kernel_rfl) cT QO d (Le e) rfl g j a (by simp) (of_decide_eq_true (kY h).1)) (q (kY h).2)
theorem Yn (n id i nx:Nat)(xs:LT)(h:(if decide (xs.length+[tz].length≤1048576) then f else none)=some r)(q:f=some r→SX Tryz.prog Q (fB (fun S=>.val (.aj nx 0 (xs++[tz]).length) ((S.del id).add (oT (xs++[tz])))) (ab T0 Tryz.prog n s)))
  (b:wB Tryz.prog (ab T0 Tryz.prog n s)=pt Tryz.prog (eM (ab T0 Tryz.prog n s)) 28 28 (.aj id 0 xs.length) (.aj i 0 1):=by kernel_rfl) (c:((db (ab T0 Tryz.prog n s)).bind (·.dst)).isSome=true:=by kernel_rfl)
  (d:(eM (ab T0 Tryz.prog n s)).get id=some (oT xs):=by kernel_rfl) (e:gH (eM (ab T0 Tryz.prog n s)) (.aj i 0 1)=some [.agg [aI 0,aI 0,.an]]:=by kernel_rfl) (g:(eM (ab T0 Tryz.prog n s)).nx=nx:=by kernel_rfl)
  (j:(Nat.ble ((eM (ab T0 Tryz.prog n s)).nx+1) 8192&&Nat.ble (eM (ab T0 Tryz.prog n s)).lim (eM (ab T0 Tryz.prog n s)).nx)=true:=by kernel_rfl) (a:Nat.ble (eM (ab T0 Tryz.prog n s)).lim id=true:=by kernel_rfl):SX Tryz.prog Q s:=
 Zu EE n (fun S=>pt Tryz.prog S 28 28 (.aj id 0 xs.length) (.aj i 0 1)) (.aj nx 0 (xs++[tz]).length) (fun S=>(S.del id).add (oT (xs++[tz]))) b c (Nf (enc:=ai) (el:=50) (sz:=3) (xs:=xs) (ys:=[tz]) (raw:=[.agg [aI 0,aI 0,.an]]) (by kernel_rfl) (by kernel_rfl) cT QO (by kernel_rfl) d e (by kernel_rfl) rfl g j a (by simp) (of_decide_eq_true (kY h).1)) (q (kY h).2)
theorem acM (n i nx:Nat)(h:(if decide ([tz].length≤1048576) then f else none)=some r)(q:f=some r→SX Tryz.prog Q (fB (fun S=>.val (.aj nx 0 [tz].length) (S.add (oT [tz]))) (ab T0 Tryz.prog n s)))
  (a:wB Tryz.prog (ab T0 Tryz.prog n s)=pt Tryz.prog (eM (ab T0 Tryz.prog n s)) 28 28 .an (.aj i 0 1):=by kernel_rfl) (b:((db (ab T0 Tryz.prog n s)).bind (·.dst)).isSome=true:=by kernel_rfl)
  (c:gH (eM (ab T0 Tryz.prog n s)) (.aj i 0 1)=some [.agg [aI 0,aI 0,.an]]:=by kernel_rfl) (d:(eM (ab T0 Tryz.prog n s)).nx=nx:=by kernel_rfl)
  (e:(Nat.ble ((eM (ab T0 Tryz.prog n s)).nx+1) 8192&&Nat.ble (eM (ab T0 Tryz.prog n s)).lim (eM (ab T0 Tryz.prog n s)).nx)=true:=by kernel_rfl):SX Tryz.prog Q s:=
 Zu EE n (fun S=>pt Tryz.prog S 28 28 .an (.aj i 0 1)) (.aj nx 0 [tz].length) (fun S=>S.add (oT [tz])) a b (Nd (enc:=ai) (el:=50) (sz:=3) (ys:=[tz]) (raw:=[.agg [aI 0,aI 0,.an]]) (.inl rfl) (by kernel_rfl) (by kernel_rfl) (by kernel_rfl) c (by kernel_rfl) d e (by simp) (of_decide_eq_true (kY h).1)) (q (kY h).2)
theorem acN (n i:Nat)(x:Term)(h:(if decide ([x].length≤1048576) then f else none)=some r)(q:f=some r→SX Tryz.prog Q (fB (fun S=>.val (.lit ([x].map ai)) (bump S)) (ab T0 Tryz.prog n s)))
  (b:wB Tryz.prog (ab T0 Tryz.prog n s)=pt Tryz.prog (eM (ab T0 Tryz.prog n s)) 28 28 .an (.aj i 0 1):=by kernel_rfl) (c:((db (ab T0 Tryz.prog n s)).bind (·.dst)).isSome=true:=by kernel_rfl) (a:Nat.ble (eM (ab T0 Tryz.prog n s)).lim (eM (ab T0 Tryz.prog n s)).nx=true:=by kernel_rfl)
  (d:(eM (ab T0 Tryz.prog n s)).get i=some (.arr 3 [aK x]):=by kernel_rfl) (e:(Nat.ble ((eM (ab T0 Tryz.prog n s)).nx+1) 8192&&Nat.ble (eM (ab T0 Tryz.prog n s)).lim (eM (ab T0 Tryz.prog n s)).nx)=true:=by kernel_rfl):SX Tryz.prog Q s:=
 Mf EE n (fun S=>pt Tryz.prog S 28 28 .an (.aj i 0 1)) ([x].map ai) b c a (XI (enc:=ai) (el:=50) (sz:=3) (xs:=[x]) (.inl rfl) (by kernel_rfl) (by kernel_rfl) cT QO (Le d) e (of_decide_eq_true (kY h).1)) (q (kY h).2)
theorem YQ (n i:Nat)(zs:LT)(x:Term)(h:(if decide ((zs++[x]).length≤1048576) then f else none)=some r)(q:f=some r→SX Tryz.prog Q (fB (fun S=>.val (.lit ((zs++[x]).map ai)) (bump S)) (ab T0 Tryz.prog n s)))
  (b:wB Tryz.prog (ab T0 Tryz.prog n s)=pt Tryz.prog (eM (ab T0 Tryz.prog n s)) 28 28 (.clip (aT zs)) (.aj i 0 1):=by kernel_rfl) (c:((db (ab T0 Tryz.prog n s)).bind (·.dst)).isSome=true:=by kernel_rfl) (a:Nat.ble (eM (ab T0 Tryz.prog n s)).lim (eM (ab T0 Tryz.prog n s)).nx=true:=by kernel_rfl)
  (d:(eM (ab T0 Tryz.prog n s)).get i=some (.arr 3 [aK x]):=by kernel_rfl) (e:(Nat.ble ((eM (ab T0 Tryz.prog n s)).nx+1) 8192&&Nat.ble (eM (ab T0 Tryz.prog n s)).lim (eM (ab T0 Tryz.prog n s)).nx)=true:=by kernel_rfl):SX Tryz.prog Q s:=
 Mf EE n (fun S=>pt Tryz.prog S 28 28 (.clip (aT zs)) (.aj i 0 1)) ((zs++[x]).map ai) b c a (PI (enc:=ai) (el:=50) (sz:=3) (zs:=zs) (xs:=[x]) (by kernel_rfl) (by kernel_rfl) cT QO rfl (Le d) e (kY h).1 (by simp)) (q (kY h).2)
theorem abU (n id:Nat)(xs ys:LT)(h:(if decide (xs.length+ys.length≤1048576) then f else none)=some r)(q:f=some r→SX Tryz.prog Q (fB (fun S=>.val (.lit ((xs++ys).map ai)) (bump (S.del id))) (ab T0 Tryz.prog n s)))
  (b:wB Tryz.prog (ab T0 Tryz.prog n s)=pt Tryz.prog (eM (ab T0 Tryz.prog n s)) 28 28 (.aj id 0 xs.length) (aT ys):=by kernel_rfl) (c:((db (ab T0 Tryz.prog n s)).bind (·.dst)).isSome=true:=by kernel_rfl)
  (d:(eM (ab T0 Tryz.prog n s)).get id=some (oT xs):=by kernel_rfl) (e:(Nat.ble ((eM (ab T0 Tryz.prog n s)).nx+1) 8192&&Nat.ble (eM (ab T0 Tryz.prog n s)).lim (eM (ab T0 Tryz.prog n s)).nx)=true:=by kernel_rfl)
  (a:Nat.ble (eM (ab T0 Tryz.prog n s)).lim id=true:=by kernel_rfl) (hi:Nat.ble (id+1) (eM (ab T0 Tryz.prog n s)).nx=true:=by kernel_rfl):SX Tryz.prog Q s:=
 L0 EE n (fun S=>pt Tryz.prog S 28 28 (.aj id 0 xs.length) (aT ys)) (es:=(xs++ys).map ai) (fun S=>bump (S.del id)) b c (Ht (enc:=ai) (el:=50) (sz:=3) (xs:=xs) (ys:=ys) (by kernel_rfl) (by kernel_rfl) cT QO d rfl rfl e a hi (kY h).1) (q (kY h).2)
theorem acO (n id i:Nat)(xs:LT)(x:Term)(h:(if decide (xs.length+[x].length≤1048576) then f else none)=some r)(q:f=some r→SX Tryz.prog Q (fB (fun S=>.val (.lit ((xs++[x]).map ai)) (bump (S.del id))) (ab T0 Tryz.prog n s)))
  (b:wB Tryz.prog (ab T0 Tryz.prog n s)=pt Tryz.prog (eM (ab T0 Tryz.prog n s)) 28 28 (.aj id 0 xs.length) (.aj i 0 1):=by kernel_rfl) (c:((db (ab T0 Tryz.prog n s)).bind (·.dst)).isSome=true:=by kernel_rfl)
  (d:(eM (ab T0 Tryz.prog n s)).get id=some (oT xs):=by kernel_rfl) (e:(eM (ab T0 Tryz.prog n s)).get i=some (.arr 3 [aK x]):=by kernel_rfl) (g:(Nat.ble ((eM (ab T0 Tryz.prog n s)).nx+1) 8192&&Nat.ble (eM (ab T0 Tryz.prog n s)).lim (eM (ab T0 Tryz.prog n s)).nx)=true:=by kernel_rfl)
  (a:Nat.ble (eM (ab T0 Tryz.prog n s)).lim id=true:=by kernel_rfl) (hi:Nat.ble (id+1) (eM (ab T0 Tryz.prog n s)).nx=true:=by kernel_rfl):SX Tryz.prog Q s:=
 L0 EE n (fun S=>pt Tryz.prog S 28 28 (.aj id 0 xs.length) (.aj i 0 1)) (es:=(xs++[x]).map ai) (fun S=>bump (S.del id)) b c (Ht (enc:=ai) (el:=50) (sz:=3) (xs:=xs) (ys:=[x]) (by kernel_rfl) (by kernel_rfl) cT QO d (Le e) rfl g a hi (kY h).1) (q (kY h).2)
variable {len : Nat} {i : Int}
theorem Cy (n id:Nat)(l:List LT)(V:List AV)(k:Nat)(h:(if decide ((0:Int)≤i∧i<((len:Nat):Int)) then f else none)=some r)(q:((0:Int)≤i∧i<((len:Nat):Int))→f=some r→SX Tryz.prog Q (sS (fun S=>.val (.ptr id (0+i.toNat) 0) S) (ab T0 Tryz.prog n s)))(a:Jw Tryz.prog (ab T0 Tryz.prog n s)=Jk Tryz.prog (vH (ab T0 Tryz.prog n s)) 93 (.aj id 0 len) (aI i):=by kernel_rfl)(b:nk (.val (.ptr id (0+i.toNat) 0) (vH (ab T0 Tryz.prog n s))) (ab T0 Tryz.prog n s)=true:=by kernel_rfl)(c:(vH (ab T0 Tryz.prog n s)).get id=some (oZ l V k):=by kernel_rfl):SX Tryz.prog Q s:=
 qE EE n (fun S=>Jk Tryz.prog S 93 (.aj id 0 len) (aI i)) (fun S=>.val (.ptr id (0+i.toNat) 0) S) a b (Mj (el:=28) (n:=1) (by kernel_rfl) (by kernel_rfl) c (of_decide_eq_true (kY h).1)) (q (of_decide_eq_true (kY h).1) (kY h).2)
theorem YR (n id:Nat)(l:List LT)(V:List AV)(k:Nat)(h:(if decide ((0:Int)≤i∧i<((len:Nat):Int)) then f else none)=some r)(q:((0:Int)≤i∧i<((len:Nat):Int))→f=some r→SX Tryz.prog Q (fB (fun S=>.val (.ptr id (0+i.toNat) 0) S) (ab T0 Tryz.prog n s)))(a:wB Tryz.prog (ab T0 Tryz.prog n s)=Jk Tryz.prog (eM (ab T0 Tryz.prog n s)) 93 (.aj id 0 len) (aI i):=by kernel_rfl)(b:nk (.val (.ptr id (0+i.toNat) 0) (eM (ab T0 Tryz.prog n s))) (ab T0 Tryz.prog n s)=true:=by kernel_rfl)(c:(eM (ab T0 Tryz.prog n s)).get id=some (oZ l V k):=by kernel_rfl):SX Tryz.prog Q s:=
 eo EE n (fun S=>Jk Tryz.prog S 93 (.aj id 0 len) (aI i)) (fun S=>.val (.ptr id (0+i.toNat) 0) S) a b (Mj (el:=28) (n:=1) (by kernel_rfl) (by kernel_rfl) c (of_decide_eq_true (kY h).1)) (q (of_decide_eq_true (kY h).1) (kY h).2)
variable {l : List LT}
theorem KQ (n id:Nat)(V:List AV)(k:Nat){F:LT→Option R}(h:(dA l i>>=F)=some r)(q:∀ x,dA l i=some x→F x=some r→SX Tryz.prog Q (sS (fun S=>.val (aT x) S) (ab T0 Tryz.prog n s)))(b:Jw Tryz.prog (ab T0 Tryz.prog n s)=GP Tryz.prog (vH (ab T0 Tryz.prog n s)) 28 (.ptr id (0+i.toNat) 0):=by kernel_rfl)(c:∀ x,nk (.val (aT x) (vH (ab T0 Tryz.prog n s))) (ab T0 Tryz.prog n s)=true:=by intro x;kernel_rfl)(d:(vH (ab T0 Tryz.prog n s)).get id=some (oZ l V k):=by kernel_rfl):SX Tryz.prog Q s:=by
 obtain⟨x,a,h⟩:=bC h
 exact qE EE n (fun S=>GP Tryz.prog S 28 (.ptr id (0+i.toNat) 0)) (fun S=>.val (aT x) S) b (c x) (I6 (enc:=iW ai) (l:=l) (V0:=V) (r:=k) (z:=.an) (n:=1) a d rfl (by kernel_rfl)) (q x a h)
theorem YS (n id:Nat)(V:List AV)(k:Nat){F:LT→Option R}(h:(dA l i>>=F)=some r)(q:∀ x,dA l i=some x→F x=some r→SX Tryz.prog Q (fB (fun S=>.val (aT x) S) (ab T0 Tryz.prog n s)))(b:wB Tryz.prog (ab T0 Tryz.prog n s)=GP Tryz.prog (eM (ab T0 Tryz.prog n s)) 28 (.ptr id (0+i.toNat) 0):=by kernel_rfl)(c:∀ x,nk (.val (aT x) (eM (ab T0 Tryz.prog n s))) (ab T0 Tryz.prog n s)=true:=by intro x;kernel_rfl)(d:(eM (ab T0 Tryz.prog n s)).get id=some (oZ l V k):=by kernel_rfl):SX Tryz.prog Q s:=by
 obtain⟨x,a,h⟩:=bC h
 exact eo EE n (fun S=>GP Tryz.prog S 28 (.ptr id (0+i.toNat) 0)) (fun S=>.val (aT x) S) b (c x) (I6 (enc:=iW ai) (l:=l) (V0:=V) (r:=k) (z:=.an) (n:=1) a d rfl (by kernel_rfl)) (q x a h)
variable {xs : LT}
theorem QP (n id:Nat){F:Term→Option R}(h:(dA xs i>>=F)=some r)(q:∀ x,dA xs i=some x→F x=some r→SX Tryz.prog Q (sS (fun S=>.val (.ptr id (0+i.toNat) 0) S) (ab T0 Tryz.prog n s)))(b:Jw Tryz.prog (ab T0 Tryz.prog n s)=Jk Tryz.prog (vH (ab T0 Tryz.prog n s)) 28 (.aj id 0 xs.length) (aI i):=by kernel_rfl)(c:nk (.val (.ptr id (0+i.toNat) 0) (vH (ab T0 Tryz.prog n s))) (ab T0 Tryz.prog n s)=true:=by kernel_rfl)(d:(vH (ab T0 Tryz.prog n s)).get id=some (oT xs):=by kernel_rfl):SX Tryz.prog Q s:=by
 obtain⟨x,a,h⟩:=bC h
 exact qE EE n (fun S=>Jk Tryz.prog S 28 (.aj id 0 xs.length) (aI i)) (fun S=>.val (.ptr id (0+i.toNat) 0) S) b c (Hm (xs:=xs) (es:=xs.map ai) (el:=50) (n:=3) a rfl (by kernel_rfl) (by kernel_rfl) d) (q x a h)
theorem aqt (n id:Nat){F:Term→Option R}(h:(dA xs i>>=F)=some r)(q:∀ x,dA xs i=some x→F x=some r→SX Tryz.prog Q (fB (fun S=>.val (.ptr id (0+i.toNat) 0) S) (ab T0 Tryz.prog n s)))(b:wB Tryz.prog (ab T0 Tryz.prog n s)=Jk Tryz.prog (eM (ab T0 Tryz.prog n s)) 28 (.aj id 0 xs.length) (aI i):=by kernel_rfl)(c:nk (.val (.ptr id (0+i.toNat) 0) (eM (ab T0 Tryz.prog n s))) (ab T0 Tryz.prog n s)=true:=by kernel_rfl)(d:(eM (ab T0 Tryz.prog n s)).get id=some (oT xs):=by kernel_rfl):SX Tryz.prog Q s:=by
 obtain⟨x,a,h⟩:=bC h
 exact eo EE n (fun S=>Jk Tryz.prog S 28 (.aj id 0 xs.length) (aI i)) (fun S=>.val (.ptr id (0+i.toNat) 0) S) b c (Hm (xs:=xs) (es:=xs.map ai) (el:=50) (n:=3) a rfl (by kernel_rfl) (by kernel_rfl) d) (q x a h)
theorem NX (n id:Nat)(x' : Term){F:Term→Option R}(h:(dA xs i>>=F)=some r)(q:∀ x,F x=some r→SX Tryz.prog Q (fB (fun S=>.skip (S.set id (oT (xs.set i.toNat x')))) (ab T0 Tryz.prog n s)))(a:wB Tryz.prog (ab T0 Tryz.prog n s)=KO Tryz.prog (eM (ab T0 Tryz.prog n s)) 50 (.ptr id (0+i.toNat) 0) (aK x'):=by kernel_rfl)(b:nk (.skip ((eM (ab T0 Tryz.prog n s)).set id (oT (xs.set i.toNat x')))) (ab T0 Tryz.prog n s)=true:=by kernel_rfl)(c:(eM (ab T0 Tryz.prog n s)).get id=some (oT xs):=by kernel_rfl)(d:Nat.ble (eM (ab T0 Tryz.prog n s)).lim id=true:=by kernel_rfl):SX Tryz.prog Q s:=by
 obtain⟨x,e,h⟩:=bC h
 exact eo EE n (fun S=>KO Tryz.prog S 50 (.ptr id (0+i.toNat) 0) (aK x')) (fun S=>.skip (S.set id (oT (xs.set i.toNat x')))) a b (XG (n:=3) (m:=3) (enc:=ai) (xs:=xs) (i:=i) (x' := x') e c (bw x) (by kernel_rfl) (by simp only[d,Bool.and_true];rfl) (tD _).symm) (q x h)
end
end
end Go.Eng

/- The contract of one function of strings; no conditions. -/
import Derived.Test.YtnangdjonghnaaaGreatVLcA
import Derived.KernelRfl
set_option linter.unusedVariables false
set_option linter.unusedSimpArgs false
namespace Go.Eng
open Go.Proofs
noncomputable section
noncomputable def Gq : St:=ab T0 Tryz.prog 7 (St.start T0 156 [.sc (.string ⟨#[]⟩),.sc (.int .i64 0)] af.empty)
noncomputable def lC (a0:ByteArray)(c:Int)(a:Int)(b:Int):St:=jg Gq [[(0,.sc (.string a0)),(1,.sc (.int .i64 c)),(6,.sc (.int .i64 a)),(5,.sc (.int .i64 b))]] (oL 0 [])
def iK (a0:ByteArray)(c:Int)(a:Int)(b:Int):Option (Int):=
 if decide ((a:Int)<c) then(om a0 a>>=fun d=>if decide ((d:Int)=10) then(if du .i64 (b+1) then(if du .i64 (a+1) then(iK a0 c (a+1) (b+1)) else none) else none) else(if du .i64 (a+1) then(iK a0 c (a+1) b) else none)) else(some b)
 partial_fixpoint
theorem Bh (a0:ByteArray)(c:Int):(∀(a:Int) (b:Int),∀ r:(Int),iK a0 c a b=some r→SX Tryz.prog (RQ (.sc (.int .i64 r))) (lC a0 c a b)):=by
 refine iK.partial_correctness _ _ (fun a b r=>SX Tryz.prog (RQ (.sc (.int .i64 r))) (lC a0 c a b)) ?_
 intro iK kP a b r h
 have kP:∀(_:ByteArray) (_:Int) (a:Int) (b:Int) (r:(Int)),iK a b=some r→SX Tryz.prog (RQ (.sc (.int .i64 r))) (lC a0 c a b):=fun _ _ a b r h=>kP a b r h
 have f:uM 0 (RQ (.sc (.int .i64 r))):=CI (by simp[aq,br])
 refine N6 EE 3 (decide ((a:Int)<c)) (by kernel_rfl) (fun YT=>?_) (fun YT=>?_)
 · have h:=wy YT h
   obtain⟨d,e,h⟩:=bC h
   refine eo EE 4 (fun S=>Dz Tryz.prog S 9 (.sc (.string a0)) (.sc (.int .i64 a))) (fun S=>.val (.sc (.int .u8 d)) S) (by kernel_rfl) (by kernel_rfl) (tx e (by kernel_rfl)) ?_
   refine N6 EE 0 (decide ((d:Int)=10)) (by kernel_rfl) (fun YU=>?_) (fun YU=>?_)
   · have h:=wy YU h
     obtain⟨abV,h⟩:=kY h
     refine zg EE 2 (some (.sc (.int .i64 (IntKind.wrap .i64 (b+1))))) (.sc (.int .i64 (b+1))) (by kernel_rfl) (by rw[DO abV]) ?_
     obtain⟨YV,h⟩:=kY h
     refine zg EE 4 (some (.sc (.int .i64 (IntKind.wrap .i64 (a+1))))) (.sc (.int .i64 (a+1))) (by kernel_rfl) (by rw[DO YV]) ?_
     exact Aq EE f 2 [[0,1,6,5]] [] (by kernel_rfl) (s' := lC a0 c (a+1) (b+1)) (by kernel_rfl) (kP a0 c (a+1) (b+1) r h)
   · have h:=wA YU h
     obtain⟨acP,h⟩:=kY h
     refine zg EE 3 (some (.sc (.int .i64 (IntKind.wrap .i64 (a+1))))) (.sc (.int .i64 (a+1))) (by kernel_rfl) (by rw[DO acP]) ?_
     exact Aq EE f 2 [[0,1,6,5]] [] (by kernel_rfl) (s' := lC a0 c (a+1) b) (by kernel_rfl) (kP a0 c (a+1) b r h)
 · have h:=wA YT h
   cases h
   exact Me EE 5 (by kernel_rfl) (by simp[aq,br])
theorem kP (a0:ByteArray)(c:Int)(a:Int)(b:Int)(r:(Int))(h:iK a0 c a b=some r):SX Tryz.prog (RQ (.sc (.int .i64 r))) (lC a0 c a b):=(Bh a0 c) a b r h
def AJ (a0:ByteArray)(a:Int):Option (Int):=
 iK a0 a 0 1
theorem Gr (a0:ByteArray)(a:Int)(r:(Int))(h:AJ a0 a=some r):∀ S,dc Tryz.prog 156 [.sc (.string a0),.sc (.int .i64 a)] S fun b c=>b=.ret (.sc (.int .i64 r))∧c=S:=by
 unfold AJ at h
 refine zY EE (by simp[aq,br]) (by simp[aq,br]) ?_
 have d:uM 0 (RQ (.sc (.int .i64 r))):=CI (by simp[aq,br])
 exact Aq EE d 7 [[0,1,6,5]] [] (by kernel_rfl) (s' := lC a0 a 0 1) (by kernel_rfl) (kP a0 a 0 1 r h)
def GQ : List UInt8→Nat→Nat
 | [],_=>0
 | _::_,0=>0
 | b::l,n+1=>match Nat.beq b.toNat 10 with
   | true=>Nat.succ (GQ l n)
   | false=>GQ l n
theorem XT : ∀(l:List UInt8) (n:Nat),GQ l n≤n:=by
 intro l
 induction l with
 | nil=>intro n;exact Nat.zero_le _
 | cons b l a=>
   intro n
   cases n with
   | zero=>exact Nat.le_refl _
   | succ n=>
     simp only[GQ]
     have:=a n
     split<;>omega
theorem Ns : ∀(l:List UInt8) (n:Nat) (b:UInt8),l[n]? = some b→GQ l (n+1)=GQ l n+(if b.toNat=10 then 1 else 0):=by
 intro l
 induction l with
 | nil=>intro n b h;simp at h
 | cons a l d=>
   intro n b h
   cases n with
   | zero=>
     simp only[List.getElem?_cons_zero,ar] at h
     subst h
     have e:∀ l:List UInt8,GQ l 0=0:=by intro l;cases l<;>rfl
     simp only[GQ,e]
     by_cases c:a.toNat=10
     · rw[if_pos c,c]
     · rw[if_neg c]
       cases f:Nat.beq a.toNat 10 with
       | true=>exact absurd (jK f) c
       | false=>rfl
   | succ n=>
     have:=d n b (by simpa using h)
     simp only[GQ] at this ⊢
     rw[this]
     split<;>omega
theorem Df {x:Int}(h1:0≤x)(h2:x≤4611686018427387904):du .i64 x=true:=by
 unfold du
 simp only[decide_eq_true_eq]
 rw[IntKind.wrap_i64];omega
theorem PK (s:ByteArray)(n:Nat)(p:n≤s.size)(q:s.size≤1000000):∀(k i:Nat),i+k=n→iK s n i ((1+GQ s.data.toList i:Nat):Int)=some ((1+GQ s.data.toList n:Nat):Int):=by
 intro k
 induction k with
 | zero=>
   intro i hi
   rw[iK]
   have:i=n:=by omega
   subst this
   simp
 | succ k l=>
   intro i hi
   have f:i<s.size:=by omega
   have h:s.data.toList[i]? = some (s.data.toList[i]'(by simpa using f)):=oe _
   generalize o:s.data.toList[i]'(by simpa using f)=b at h
   have e:om s (i:Int)=some (b.toNat:Int):=by
     unfold om
     rw[if_pos (by omega)]
     simp only[Int.toNat_natCast]
     rw [show s[i]? = some b from by
      rw[←h]
      simp[getElem?_def]
      rfl]
     rfl
   have r:=XT s.data.toList i
   have a:=Ns s.data.toList i b h
   rw[iK]
   have m:decide ((i:Int)<(n:Int))=true:=by simp;omega
   rw[m,if_pos rfl,e]
   simp only[Option.bind_eq_bind,Option.bind_some]
   have g:du .i64 ((i:Int)+1)=true:=Df (by omega) (by omega)
   have j:du .i64 (((1+GQ s.data.toList i:Nat):Int)+1)=true:=Df (by omega) (by omega)
   have c:=l (i+1) (by omega)
   by_cases d:b.toNat=10
   · have:decide (((b.toNat:Nat):Int)=10)=true:=by simp;omega
     rw[this,if_pos rfl,j,if_pos rfl,g,if_pos rfl]
     rw[a,if_pos d] at c
     rw[←c]
     congr 1
   · have:decide (((b.toNat:Nat):Int)=10)=false:=by simp;omega
     rw[this]
     simp only[Bool.false_eq_true,if_false]
     rw[g,if_pos rfl]
     rw[a,if_neg d] at c
     rw[←c]
     congr 1
def L2 : List AV→af→Option (AV×af)
 | [.sc (.string s),.sc (.int .i64 (.ofNat n))],S=>match Nat.ble n s.data.toList.length&&Nat.ble s.data.toList.length 1000000 with
   | true=>some (.sc (.int .i64 (.ofNat (Nat.succ (GQ s.data.toList n)))),S)
   | false=>none
 | _,_=>none
theorem Gs : ∀ args S v a,L2 args S=some (v,a)→dc Tryz.prog 156 args S fun r c=>r=.ret v∧c=a:=by
 intro args S v a h
 unfold L2 at h
 split at h<;>try (simp at h;done)
 rename_i S0 s n
 split at h<;>simp only[ar,iy,reduceCtorEq] at h
 rename_i b
 simp only[Bool.and_eq_true] at b
 obtain⟨rfl,rfl⟩:=h
 have h1:=eL b.1
 have h2:=eL b.2
 have d:s.data.toList.length=s.size:=Array.length_toList
 have:=Gr s n _ (by unfold AJ;have:=PK s n (by omega) (by omega) n 0 (by omega);rw[show GQ s.data.toList 0=0 from by cases s.data.toList<;>rfl] at this;exact this) S
 rw[show Nat.succ (GQ s.data.toList n)=1+GQ s.data.toList n from by omega]
 exact this
end
end Go.Eng

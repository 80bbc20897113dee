/- The contract of one function of strings; no conditions. -/
import Derived.Test.YtehhcejekfibpaaGreatVLcA
import Derived.KernelRfl
set_option linter.unusedVariables false
set_option linter.unusedSimpArgs false
namespace Go.Eng
open Go.Proofs
noncomputable section
noncomputable def FB : St:=ab T0 Tryz.prog 7 (St.start T0 157 [.sc (.string ⟨#[]⟩),.sc (.int .i64 0)] af.empty)
noncomputable def kN (a0:ByteArray)(c:Int)(a:Int)(b:Int):St:=iJ FB [[(0,.sc (.string a0)),(1,.sc (.int .i64 c)),(6,.sc (.int .i64 a)),(5,.sc (.int .i64 b))]] (oL 0 [])
def ib (a0:ByteArray)(c:Int)(a:Int)(b:Int):Option (Int):=
 if decide ((a:Int)<c) then(nD a0 a>>=fun d=>if decide ((d:Int)=10) then(if dH .i64 (b+1) then(if dH .i64 (a+1) then(ib a0 c (a+1) (b+1)) else none) else none) else(if dH .i64 (a+1) then(ib a0 c (a+1) b) else none)) else(some b)
 partial_fixpoint
theorem AG (a0:ByteArray)(c:Int):(∀(a:Int) (b:Int),∀ r:(Int),ib a0 c a b=some r→SX Tryz.prog (RQ (.sc (.int .i64 r))) (kN a0 c a b)):=by
 refine ib.partial_correctness _ _ (fun a b r=>SX Tryz.prog (RQ (.sc (.int .i64 r))) (kN a0 c a b)) ?_
 intro ib ki a b r h
 have ki:∀(_:ByteArray) (_:Int) (a:Int) (b:Int) (r:(Int)),ib a b=some r→SX Tryz.prog (RQ (.sc (.int .i64 r))) (kN a0 c a b):=fun _ _ a b r h=>ki a b r h
 have f:tM 0 (RQ (.sc (.int .i64 r))):=BT (by simp[aq,bF])
 refine NP EE 3 (decide ((a:Int)<c)) (by kernel_rfl) (fun QD=>?_) (fun QD=>?_)
 · have h:=yg QD h
   obtain⟨d,e,h⟩:=bT h
   refine gO EE 4 (fun S=>CE Tryz.prog S 9 (.sc (.string a0)) (.sc (.int .i64 a))) (fun S=>.val (.sc (.int .u8 d)) S) (by kernel_rfl) (by kernel_rfl) (sB e (by kernel_rfl)) ?_
   refine NP EE 0 (decide ((d:Int)=10)) (by kernel_rfl) (fun QE=>?_) (fun QE=>?_)
   · have h:=yg QE h
     obtain⟨Yh,h⟩:=q8 h
     refine yn EE 2 (some (.sc (.int .i64 (IntKind.wrap .i64 (b+1))))) (.sc (.int .i64 (b+1))) (by kernel_rfl) (by rw[CO Yh]) ?_
     obtain⟨QF,h⟩:=q8 h
     refine yn EE 4 (some (.sc (.int .i64 (IntKind.wrap .i64 (a+1))))) (.sc (.int .i64 (a+1))) (by kernel_rfl) (by rw[CO QF]) ?_
     exact zF EE f 2 [[0,1,6,5]] [] (by kernel_rfl) (s' := kN a0 c (a+1) (b+1)) (by kernel_rfl) (ki a0 c (a+1) (b+1) r h)
   · have h:=yh QE h
     obtain⟨YN,h⟩:=q8 h
     refine yn EE 3 (some (.sc (.int .i64 (IntKind.wrap .i64 (a+1))))) (.sc (.int .i64 (a+1))) (by kernel_rfl) (by rw[CO YN]) ?_
     exact zF EE f 2 [[0,1,6,5]] [] (by kernel_rfl) (s' := kN a0 c (a+1) b) (by kernel_rfl) (ki a0 c (a+1) b r h)
 · have h:=yh QD h
   cases h
   exact LS EE 5 (by kernel_rfl) (by simp[aq,bF])
theorem ki (a0:ByteArray)(c:Int)(a:Int)(b:Int)(r:(Int))(h:ib a0 c a b=some r):SX Tryz.prog (RQ (.sc (.int .i64 r))) (kN a0 c a b):=(AG a0 c) a b r h
def zY (a0:ByteArray)(a:Int):Option (Int):=
 ib a0 a 0 1
theorem FC (a0:ByteArray)(a:Int)(r:(Int))(h:zY a0 a=some r):∀ S,cL Tryz.prog 157 [.sc (.string a0),.sc (.int .i64 a)] S fun b c=>b=.ret (.sc (.int .i64 r))∧c=S:=by
 unfold zY at h
 refine zk EE (by simp[aq,bF]) (by simp[aq,bF]) ?_
 have d:tM 0 (RQ (.sc (.int .i64 r))):=BT (by simp[aq,bF])
 exact zF EE d 7 [[0,1,6,5]] [] (by kernel_rfl) (s' := kN a0 a 0 1) (by kernel_rfl) (ki a0 a 0 1 r h)
def Gd : List UInt8→Nat→Nat
 | [],_=>0
 | _::_,0=>0
 | b::l,n+1=>match Nat.beq b.toNat 10 with
   | true=>Nat.succ (Gd l n)
   | false=>Gd l n
theorem XN : ∀(l:List UInt8) (n:Nat),Gd l n≤n:=by
 intro l
 induction l with
 | nil=>intro n;exact Nat.zero_le _
 | cons b l a=>
   intro n
   cases n with
   | zero=>exact Nat.le_refl _
   | succ n=>
     simp only[Gd]
     have:=a n
     split<;>omega
theorem M6 : ∀(l:List UInt8) (n:Nat) (b:UInt8),l[n]? = some b→Gd l (n+1)=Gd l n+(if b.toNat=10 then 1 else 0):=by
 intro l
 induction l with
 | nil=>intro n b h;simp at h
 | cons a l d=>
   intro n b h
   cases n with
   | zero=>
     simp only[List.getElem?_cons_zero,an] at h
     subst h
     have e:∀ l:List UInt8,Gd l 0=0:=by intro l;cases l<;>rfl
     simp only[Gd,e]
     by_cases c:a.toNat=10
     · rw[if_pos c,c]
     · rw[if_neg c]
       cases f:Nat.beq a.toNat 10 with
       | true=>exact absurd (jj f) c
       | false=>rfl
   | succ n=>
     have:=d n b (by simpa using h)
     simp only[Gd] at this ⊢
     rw[this]
     split<;>omega
theorem Cn {x:Int}(h1:0≤x)(h2:x≤4611686018427387904):dH .i64 x=true:=by
 unfold dH
 simp only[decide_eq_true_eq]
 rw[IntKind.wrap_i64];omega
theorem Pt (s:ByteArray)(n:Nat)(p:n≤s.size)(q:s.size≤1000000):∀(k i:Nat),i+k=n→ib s n i ((1+Gd s.data.toList i:Nat):Int)=some ((1+Gd s.data.toList n:Nat):Int):=by
 intro k
 induction k with
 | zero=>
   intro i hi
   rw[ib]
   have:i=n:=by omega
   subst this
   simp
 | succ k l=>
   intro i hi
   have f:i<s.size:=by omega
   have h:s.data.toList[i]? = some (s.data.toList[i]'(by simpa using f)):=nA _
   generalize o:s.data.toList[i]'(by simpa using f)=b at h
   have e:nD s (i:Int)=some (b.toNat:Int):=by
     unfold nD
     rw[if_pos (by omega)]
     simp only[Int.toNat_natCast]
     rw [show s[i]? = some b from by
      rw[←h]
      simp[getElem?_def]
      rfl]
     rfl
   have r:=XN s.data.toList i
   have a:=M6 s.data.toList i b h
   rw[ib]
   have m:decide ((i:Int)<(n:Int))=true:=by simp;omega
   rw[m,if_pos rfl,e]
   simp only[Option.bind_eq_bind,Option.bind_some]
   have g:dH .i64 ((i:Int)+1)=true:=Cn (by omega) (by omega)
   have j:dH .i64 (((1+Gd s.data.toList i:Nat):Int)+1)=true:=Cn (by omega) (by omega)
   have c:=l (i+1) (by omega)
   by_cases d:b.toNat=10
   · have:decide (((b.toNat:Nat):Int)=10)=true:=by simp;omega
     rw[this,if_pos rfl,j,if_pos rfl,g,if_pos rfl]
     rw[a,if_pos d] at c
     rw[←c]
     congr 1
   · have:decide (((b.toNat:Nat):Int)=10)=false:=by simp;omega
     rw[this]
     simp only[Bool.false_eq_true,if_false]
     rw[g,if_pos rfl]
     rw[a,if_neg d] at c
     rw[←c]
     congr 1
def LC : List AV→af→Option (AV×af)
 | [.sc (.string s),.sc (.int .i64 (.ofNat n))],S=>match Nat.ble n s.data.toList.length&&Nat.ble s.data.toList.length 1000000 with
   | true=>some (.sc (.int .i64 (.ofNat (Nat.succ (Gd s.data.toList n)))),S)
   | false=>none
 | _,_=>none
theorem FD : ∀ args S v a,LC args S=some (v,a)→cL Tryz.prog 157 args S fun r c=>r=.ret v∧c=a:=by
 intro args S v a h
 unfold LC at h
 split at h<;>try (simp at h;done)
 rename_i S0 s n
 split at h<;>simp only[an,gU,reduceCtorEq] at h
 rename_i b
 simp only[Bool.and_eq_true] at b
 obtain⟨rfl,rfl⟩:=h
 have h1:=ed b.1
 have h2:=ed b.2
 have d:s.data.toList.length=s.size:=Array.length_toList
 have:=FC s n _ (by unfold zY;have:=Pt s n (by omega) (by omega) n 0 (by omega);rw[show Gd s.data.toList 0=0 from by cases s.data.toList<;>rfl] at this;exact this) S
 rw[show Nat.succ (Gd s.data.toList n)=1+Gd s.data.toList n from by omega]
 exact this
end
end Go.Eng

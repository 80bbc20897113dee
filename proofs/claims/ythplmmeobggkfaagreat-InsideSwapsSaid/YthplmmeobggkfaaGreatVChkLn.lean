/- The contract of one function of strings; no conditions. -/
import Derived.Test.YthplmmeobggkfaaGreatVLcA
import Derived.Test.YthplmmeobggkfaaGreatVEngF
import Derived.KernelRfl
set_option linter.all false
namespace Go.Eng
open Go.Proofs
noncomputable section
noncomputable def MM : St:=ab T0 Tryz.prog 7 (St.start T0 131 [.sc (.string ⟨#[]⟩),.sc (.int .i64 0)] ag.empty)
noncomputable def lY (a0:ByteArray)(c:Int)(a:Int)(b:Int):St:=jN MM [[(0,.sc (.string a0)),(1,.sc (.int .i64 c)),(6,.sc (.int .i64 a)),(5,.sc (.int .i64 b))]] (oX 0 [])
def ja (a0:ByteArray)(c:Int)(a:Int)(b:Int):Option (Int):=
 if decide ((a:Int)<c) then(pt a0 a>>=fun d=>if decide ((d:Int)=10) then(if cw .i64 (b+1) then(if cw .i64 (a+1) then(ja a0 c (a+1) (b+1)) else none) else none) else(if cw .i64 (a+1) then(ja a0 c (a+1) b) else none)) else(some b)
 partial_fixpoint
theorem Gv (a0:ByteArray)(c:Int):(∀(a:Int) (b:Int),∀ r:(Int),ja a0 c a b=some r→SX Tryz.prog (RQ (.sc (.int .i64 r))) (lY a0 c a b)):=by
 refine ja.partial_correctness _ _ (fun a b r=>SX Tryz.prog (RQ (.sc (.int .i64 r))) (lY a0 c a b)) ?_
 intro ja lv a b r h
 have lv:∀(_:ByteArray) (_:Int) (a:Int) (b:Int) (r:(Int)),ja a b=some r→SX Tryz.prog (RQ (.sc (.int .i64 r))) (lY a0 c a b):=fun _ _ a b r h=>lv a b r h
 have f:vk 0 (RQ (.sc (.int .i64 r))):=Ik (by simp[aV,cF])
 refine Tr EE 3 (decide ((a:Int)<c)) (by kernel_rfl) (fun afF=>?_) (fun afF=>?_)
 · have h:=Zi afF h
   obtain⟨d,e,h⟩:=rZ h
   refine bF EE 4 (fun S=>Ji Tryz.prog S 9 (.sc (.string a0)) (.sc (.int .i64 a))) (fun S=>.val (.sc (.int .u8 d)) S) (by kernel_rfl) (by kernel_rfl) (vC e (by kernel_rfl)) ?_
   refine Tr EE 0 (decide ((d:Int)=10)) (by kernel_rfl) (fun afG=>?_) (fun afG=>?_)
   · have h:=Zi afG h
     obtain⟨akR,h⟩:=WE h
     refine wO EE 2 (some (.sc (.int .i64 (IntKind.wrap .i64 (b+1))))) (.sc (.int .i64 (b+1))) (by kernel_rfl) (by rw[Jv akR]) ?_
     obtain⟨Z0,h⟩:=WE h
     refine wO EE 4 (some (.sc (.int .i64 (IntKind.wrap .i64 (a+1))))) (.sc (.int .i64 (a+1))) (by kernel_rfl) (by rw[Jv Z0]) ?_
     exact Il EE f 2 [[0,1,6,5]] [] (by kernel_rfl) (s' := lY a0 c (a+1) (b+1)) (by kernel_rfl) (lv a0 c (a+1) (b+1) r h)
   · have h:=ZS afG h
     obtain⟨akS,h⟩:=WE h
     refine wO EE 3 (some (.sc (.int .i64 (IntKind.wrap .i64 (a+1))))) (.sc (.int .i64 (a+1))) (by kernel_rfl) (by rw[Jv akS]) ?_
     exact Il EE f 2 [[0,1,6,5]] [] (by kernel_rfl) (s' := lY a0 c (a+1) b) (by kernel_rfl) (lv a0 c (a+1) b r h)
 · have h:=ZS afF h
   cases h
   exact UG EE 5 (by kernel_rfl) (by simp[aV,cF])
theorem lv (a0:ByteArray)(c:Int)(a:Int)(b:Int)(r:(Int))(h:ja a0 c a b=some r):SX Tryz.prog (RQ (.sc (.int .i64 r))) (lY a0 c a b):=(Gv a0 c) a b r h
def FJ (a0:ByteArray)(a:Int):Option (Int):=
 ja a0 a 0 1
theorem MN (a0:ByteArray)(a:Int)(r:(Int))(h:FJ a0 a=some r):∀ S,fU Tryz.prog 131 [.sc (.string a0),.sc (.int .i64 a)] S fun b c=>b=.ret (.sc (.int .i64 r))∧c=S:=by
 unfold FJ at h
 refine EF EE (by simp[aV,cF]) (by simp[aV,cF]) ?_
 have d:vk 0 (RQ (.sc (.int .i64 r))):=Ik (by simp[aV,cF])
 exact Il EE d 7 [[0,1,6,5]] [] (by kernel_rfl) (s' := lY a0 a 0 1) (by kernel_rfl) (lv a0 a 0 1 r h)
def Ja : List UInt8→Nat→Nat
 | [],_=>0
 | _::_,0=>0
 | b::l,n+1=>match Nat.beq b.toNat 10 with
   | true=>Nat.succ (Ja l n)
   | false=>Ja l n
theorem aeG : ∀(l:List UInt8) (n:Nat),Ja l n≤n:=by
 intro l
 induction l with
 | nil=>intro n;exact bW _
 | cons b l a=>
   intro n
   cases n with
   | zero=>exact bG _
   | succ n=>
     simp only[Ja]
     have:=a n
     split<;>omega
theorem VV : ∀(l:List UInt8) (n:Nat) (b:UInt8),l[n]? = some b→Ja l (n+1)=Ja l n+(if b.toNat=10 then 1 else 0):=by
 intro l
 induction l with
 | nil=>intro n b h;simp at h
 | cons a l c=>
   intro n b h
   cases n with
   | zero=>
     simp only[vw,bj] at h
     subst h
     have d:∀ l:List UInt8,Ja l 0=0:=by intro l;cases l<;>rfl
     simp only[Ja,d]
     by_cases hb:a.toNat=10
     · rw[if_pos hb,hb]
     · rw[if_neg hb]
       cases e:Nat.beq a.toNat 10 with
       | true=>exact absurd (oR e) hb
       | false=>rfl
   | succ n=>
     have:=c n b (by simpa using h)
     simp only[Ja] at this ⊢
     rw[this]
     split<;>omega
theorem IW {x:Int}(h1:0≤x)(h2:x≤4611686018427387904):cw .i64 x=true:=by
 unfold cw
 simp only[decide_eq_true_eq]
 rw[IntKind.wrap_i64];omega
theorem YP (s:ByteArray)(n:Nat)(o:n≤s.size)(hs:s.size≤1000000):∀(k i:Nat),i+k=n→ja s n i ((1+Ja s.data.toList i:Nat):Int)=some ((1+Ja s.data.toList n:Nat):Int):=by
 intro k
 induction k with
 | zero=>
   intro i hi
   rw[ja]
   have:i=n:=by omega
   subst this
   simp
 | succ k j=>
   intro i hi
   have f:i<s.size:=by omega
   have hb:s.data.toList[i]? = some (s.data.toList[i]'(by simpa using f)):=qB _
   generalize m:s.data.toList[i]'(by simpa using f)=b at hb
   have e:pt s (i:Int)=some (b.toNat:Int):=by
     unfold pt
     rw[if_pos (by omega)]
     simp only[ub]
     rw [show s[i]? = some b from by
      rw[←hb]
      simp[getElem?_def]
      rfl]
     rfl
   have p:=aeG s.data.toList i
   have a:=VV s.data.toList i b hb
   rw[ja]
   have l:decide ((i:Int)<(n:Int))=true:=by simp;omega
   rw[l,if_pos rfl,e]
   simp only[aW,aD]
   have g:cw .i64 ((i:Int)+1)=true:=IW (by omega) (by omega)
   have h:cw .i64 (((1+Ja s.data.toList i:Nat):Int)+1)=true:=IW (by omega) (by omega)
   have c:=j (i+1) (by omega)
   by_cases d:b.toNat=10
   · have:decide (((b.toNat:Nat):Int)=10)=true:=by simp;omega
     rw[this,if_pos rfl,h,if_pos rfl,g,if_pos rfl]
     rw[a,if_pos d] at c
     rw[←c]
     congr 1
   · have:decide (((b.toNat:Nat):Int)=10)=false:=by simp;omega
     rw[this]
     simp only[dK,if_false]
     rw[g,if_pos rfl]
     rw[a,if_neg d] at c
     rw[←c]
     congr 1
def Uh : List AV→ag→Option (AV×ag)
 | [.sc (.string s),.sc (.int .i64 (.ofNat n))],S=>match Nat.ble n s.data.toList.length&&Nat.ble s.data.toList.length 1000000 with
   | true=>some (.sc (.int .i64 (.ofNat (Nat.succ (Ja s.data.toList n)))),S)
   | false=>none
 | _,_=>none
theorem MO : ∀ args S v a,Uh args S=some (v,a)→fU Tryz.prog 131 args S fun r c=>r=.ret v∧c=a:=by
 intro args S v a h
 unfold Uh at h
 split at h<;>try (simp at h;done)
 rename_i S0 s n
 split at h<;>simp only[bj,nj,reduceCtorEq] at h
 rename_i b
 simp only[aS] at b
 obtain⟨rfl,rfl⟩:=h
 have h1:=gw b.1
 have h2:=gw b.2
 have d:s.data.toList.length=s.size:=Fm
 have:=MN s n _ (by unfold FJ;have:=YP s n (by omega) (by omega) n 0 (by omega);rw[show Ja s.data.toList 0=0 from by cases s.data.toList<;>rfl] at this;exact this) S
 rw[show Nat.succ (Ja s.data.toList n)=1+Ja s.data.toList n from by omega]
 exact this
theorem VW : ∀ S,fU Tryz.prog 319 [.lit []] S fun a b=>a=.ret (.lit [])∧b=S:=by
 refine EF EE (by simp[aV,cF]) (by simp[aV,cF]) ?_
 refine QE EE 4 [] (by kernel_rfl) (by kernel_rfl) (fun c0=>?_) ?_
 · exact bN EE 4 (v:=.an) (by kernel_rfl) (.an)
 · refine bF EE 3 (fun S=>mN Tryz.prog S 45 45 (.ai 0 0 0) (.lit [])) (fun S=>.val (.ai 0 0 0) S) (by kernel_rfl) (by kernel_rfl) (dH (enc:=(az .i64)) (el:=3) (sz:=1) (ys:=([]:List Int)) (by kernel_rfl) (by kernel_rfl) (bC _ (.inl rfl)) rfl (bC (enc:=(az .i64)) (ys:=([]:List Int)) _ (.inr ⟨0,1,rfl,by kernel_rfl⟩)) (dY (enc:=(az .i64)) (l:=([]:List Int)) (fun _=>rfl) (fun _=>by kernel_rfl))) ?_
   exact bN EE 3 (v:=.ai 0 0 0) (by kernel_rfl) (Fz.yU (sz:=1) (es:=[]) (by kernel_rfl) rfl Er.nil)
def Ui (args:List AV)(S:ag):Option (AV×ag):=match args with
 | [.lit []]=>some (.lit [],S)
 | _=>none
theorem MP : ∀ args S v a,Ui args S=some (v,a)→fU Tryz.prog 319 args S fun r b=>r=.ret v∧b=a:=by
 intro args S v a h
 unfold Ui at h
 split at h<;>simp only[bj,nj,reduceCtorEq] at h
 obtain⟨rfl,rfl⟩:=h
 exact VW S
end
end Go.Eng

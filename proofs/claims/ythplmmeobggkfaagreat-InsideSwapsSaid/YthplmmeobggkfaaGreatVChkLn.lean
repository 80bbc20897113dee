/- The contract of one function of strings; no conditions. -/
import Derived.Test.YthplmmeobggkfaaGreatVLcA
import Derived.Test.YthplmmeobggkfaaGreatVEngF
import Derived.KernelRfl
set_option linter.all false
namespace Go.Eng
open Go.Proofs
noncomputable section
noncomputable def MP : St:=ab T0 Tryz.prog 7 (St.start T0 131 [.sc (.string ⟨#[]⟩),.sc (.int .i64 0)] ag.empty)
noncomputable def me (a0:ByteArray)(c:Int)(a:Int)(b:Int):St:=jB MP [[(0,.sc (.string a0)),(1,.sc (.int .i64 c)),(6,.sc (.int .i64 a)),(5,.sc (.int .i64 b))]] (pg 0 [])
def jf (a0:ByteArray)(c:Int)(a:Int)(b:Int):Option (Int):=
 if decide ((a:Int)<c) then(pz a0 a>>=fun d=>if decide ((d:Int)=10) then(if cy .i64 (b+1) then(if cy .i64 (a+1) then(jf a0 c (a+1) (b+1)) else none) else none) else(if cy .i64 (a+1) then(jf a0 c (a+1) b) else none)) else(some b)
 partial_fixpoint
theorem GD (a0:ByteArray)(c:Int):(∀(a:Int) (b:Int),∀ r:(Int),jf a0 c a b=some r→SX Tryz.prog (RQ (.sc (.int .i64 r))) (me a0 c a b)):=by
 refine jf.partial_correctness _ _ (fun a b r=>SX Tryz.prog (RQ (.sc (.int .i64 r))) (me a0 c a b)) ?_
 intro jf lC a b r h
 have lC:∀(_:ByteArray) (_:Int) (a:Int) (b:Int) (r:(Int)),jf a b=some r→SX Tryz.prog (RQ (.sc (.int .i64 r))) (me a0 c a b):=fun _ _ a b r h=>lC a b r h
 have f:vq 0 (RQ (.sc (.int .i64 r))):=Is (by simp[aV,cG])
 refine Tv EE 3 (decide ((a:Int)<c)) (by kernel_rfl) (fun afH=>?_) (fun afH=>?_)
 · have h:=Zk afH h
   obtain⟨d,e,h⟩:=sq h
   refine bF EE 4 (fun S=>Jq Tryz.prog S 9 (.sc (.string a0)) (.sc (.int .i64 a))) (fun S=>.val (.sc (.int .u8 d)) S) (by kernel_rfl) (by kernel_rfl) (vI e (by kernel_rfl)) ?_
   refine Tv EE 0 (decide ((d:Int)=10)) (by kernel_rfl) (fun afI=>?_) (fun afI=>?_)
   · have h:=Zk afI h
     obtain⟨akS,h⟩:=WI h
     refine wT EE 2 (some (.sc (.int .i64 (IntKind.wrap .i64 (b+1))))) (.sc (.int .i64 (b+1))) (by kernel_rfl) (by rw[JD akS]) ?_
     obtain⟨Z2,h⟩:=WI h
     refine wT EE 4 (some (.sc (.int .i64 (IntKind.wrap .i64 (a+1))))) (.sc (.int .i64 (a+1))) (by kernel_rfl) (by rw[JD Z2]) ?_
     exact It EE f 2 [[0,1,6,5]] [] (by kernel_rfl) (s' := me a0 c (a+1) (b+1)) (by kernel_rfl) (lC a0 c (a+1) (b+1) r h)
   · have h:=ZU afI h
     obtain⟨akT,h⟩:=WI h
     refine wT EE 3 (some (.sc (.int .i64 (IntKind.wrap .i64 (a+1))))) (.sc (.int .i64 (a+1))) (by kernel_rfl) (by rw[JD akT]) ?_
     exact It EE f 2 [[0,1,6,5]] [] (by kernel_rfl) (s' := me a0 c (a+1) b) (by kernel_rfl) (lC a0 c (a+1) b r h)
 · have h:=ZU afH h
   cases h
   exact UJ EE 5 (by kernel_rfl) (by simp[aV,cG])
theorem lC (a0:ByteArray)(c:Int)(a:Int)(b:Int)(r:(Int))(h:jf a0 c a b=some r):SX Tryz.prog (RQ (.sc (.int .i64 r))) (me a0 c a b):=(GD a0 c) a b r h
def FR (a0:ByteArray)(a:Int):Option (Int):=
 jf a0 a 0 1
theorem MQ (a0:ByteArray)(a:Int)(r:(Int))(h:FR a0 a=some r):∀ S,fY Tryz.prog 131 [.sc (.string a0),.sc (.int .i64 a)] S fun b c=>b=.ret (.sc (.int .i64 r))∧c=S:=by
 unfold FR at h
 refine EP EE (by simp[aV,cG]) (by simp[aV,cG]) ?_
 have d:vq 0 (RQ (.sc (.int .i64 r))):=Is (by simp[aV,cG])
 exact It EE d 7 [[0,1,6,5]] [] (by kernel_rfl) (s' := me a0 a 0 1) (by kernel_rfl) (lC a0 a 0 1 r h)
def Jg : List UInt8→Nat→Nat
 | [],_=>0
 | _::_,0=>0
 | b::l,n+1=>match Nat.beq b.toNat 10 with
   | true=>Nat.succ (Jg l n)
   | false=>Jg l n
theorem aeI : ∀(l:List UInt8) (n:Nat),Jg l n≤n:=by
 intro l
 induction l with
 | nil=>intro n;exact bU _
 | cons b l a=>
   intro n
   cases n with
   | zero=>exact bJ _
   | succ n=>
     simp only[Jg]
     have:=a n
     split<;>omega
theorem VY : ∀(l:List UInt8) (n:Nat) (b:UInt8),l[n]? = some b→Jg l (n+1)=Jg l n+(if b.toNat=10 then 1 else 0):=by
 intro l
 induction l with
 | nil=>intro n b h;simp at h
 | cons a l c=>
   intro n b h
   cases n with
   | zero=>
     simp only[ur,ba] at h
     subst h
     have d:∀ l:List UInt8,Jg l 0=0:=by intro l;cases l<;>rfl
     simp only[Jg,d]
     by_cases hb:a.toNat=10
     · rw[if_pos hb,hb]
     · rw[if_neg hb]
       cases e:Nat.beq a.toNat 10 with
       | true=>exact absurd (np e) hb
       | false=>rfl
   | succ n=>
     have:=c n b (by simpa using h)
     simp only[Jg] at this ⊢
     rw[this]
     split<;>omega
theorem I2 {x:Int}(h1:0≤x)(h2:x≤4611686018427387904):cy .i64 x=true:=by
 unfold cy
 simp only[decide_eq_true_eq]
 rw[IntKind.wrap_i64];omega
theorem YQ (s:ByteArray)(n:Nat)(o:n≤s.size)(hs:s.size≤1000000):∀(k i:Nat),i+k=n→jf s n i ((1+Jg s.data.toList i:Nat):Int)=some ((1+Jg s.data.toList n:Nat):Int):=by
 intro k
 induction k with
 | zero=>
   intro i hi
   rw[jf]
   have:i=n:=by omega
   subst this
   simp
 | succ k j=>
   intro i hi
   have f:i<s.size:=by omega
   have hb:s.data.toList[i]? = some (s.data.toList[i]'(by simpa using f)):=qm _
   generalize m:s.data.toList[i]'(by simpa using f)=b at hb
   have e:pz s (i:Int)=some (b.toNat:Int):=by
     unfold pz
     rw[if_pos (by omega)]
     simp only[sy]
     rw [show s[i]? = some b from by
      rw[←hb]
      simp[getElem?_def]
      rfl]
     rfl
   have p:=aeI s.data.toList i
   have a:=VY s.data.toList i b hb
   rw[jf]
   have l:decide ((i:Int)<(n:Int))=true:=by simp;omega
   rw[l,if_pos rfl,e]
   simp only[aQ,ax]
   have g:cy .i64 ((i:Int)+1)=true:=I2 (by omega) (by omega)
   have h:cy .i64 (((1+Jg s.data.toList i:Nat):Int)+1)=true:=I2 (by omega) (by omega)
   have c:=j (i+1) (by omega)
   by_cases d:b.toNat=10
   · have:decide (((b.toNat:Nat):Int)=10)=true:=by simp;omega
     rw[this,if_pos rfl,h,if_pos rfl,g,if_pos rfl]
     rw[a,if_pos d] at c
     rw[←c]
     congr 1
   · have:decide (((b.toNat:Nat):Int)=10)=false:=by simp;omega
     rw[this]
     simp only[dL,if_false]
     rw[g,if_pos rfl]
     rw[a,if_neg d] at c
     rw[←c]
     congr 1
def Ul : List AV→ag→Option (AV×ag)
 | [.sc (.string s),.sc (.int .i64 (.ofNat n))],S=>match Nat.ble n s.data.toList.length&&Nat.ble s.data.toList.length 1000000 with
   | true=>some (.sc (.int .i64 (.ofNat (Nat.succ (Jg s.data.toList n)))),S)
   | false=>none
 | _,_=>none
theorem MR : ∀ args S v a,Ul args S=some (v,a)→fY Tryz.prog 131 args S fun r c=>r=.ret v∧c=a:=by
 intro args S v a h
 unfold Ul at h
 split at h<;>try (simp at h;done)
 rename_i S0 s n
 split at h<;>simp only[ba,lR,reduceCtorEq] at h
 rename_i b
 simp only[aY] at b
 obtain⟨rfl,rfl⟩:=h
 have h1:=gb b.1
 have h2:=gb b.2
 have d:s.data.toList.length=s.size:=xh
 have:=MQ s n _ (by unfold FR;have:=YQ s n (by omega) (by omega) n 0 (by omega);rw[show Jg s.data.toList 0=0 from by cases s.data.toList<;>rfl] at this;exact this) S
 rw[show Nat.succ (Jg s.data.toList n)=1+Jg s.data.toList n from by omega]
 exact this
theorem VZ : ∀ S,fY Tryz.prog 319 [.lit []] S fun a b=>a=.ret (.lit [])∧b=S:=by
 refine EP EE (by simp[aV,cG]) (by simp[aV,cG]) ?_
 refine QH EE 4 [] (by kernel_rfl) (by kernel_rfl) (fun c0=>?_) ?_
 · exact bN EE 4 (v:=.an) (by kernel_rfl) (.an)
 · refine bF EE 3 (fun S=>mQ Tryz.prog S 45 45 (.ai 0 0 0) (.lit [])) (fun S=>.val (.ai 0 0 0) S) (by kernel_rfl) (by kernel_rfl) (dJ (enc:=(aA .i64)) (el:=3) (sz:=1) (ys:=([]:List Int)) (by kernel_rfl) (by kernel_rfl) (bC _ (.inl rfl)) rfl (bC (enc:=(aA .i64)) (ys:=([]:List Int)) _ (.inr ⟨0,1,rfl,by kernel_rfl⟩)) (ed (enc:=(aA .i64)) (l:=([]:List Int)) (fun _=>rfl) (fun _=>by kernel_rfl))) ?_
   exact bN EE 3 (v:=.ai 0 0 0) (by kernel_rfl) (Fz.zf (sz:=1) (es:=[]) (by kernel_rfl) rfl EB.nil)
def Um (args:List AV)(S:ag):Option (AV×ag):=match args with
 | [.lit []]=>some (.lit [],S)
 | _=>none
theorem MS : ∀ args S v a,Um args S=some (v,a)→fY Tryz.prog 319 args S fun r b=>r=.ret v∧b=a:=by
 intro args S v a h
 unfold Um at h
 split at h<;>simp only[ba,lR,reduceCtorEq] at h
 obtain⟨rfl,rfl⟩:=h
 exact VZ S
end
end Go.Eng

/- Closed runs: stood-in functions and tables; no conditions. -/
import Derived.Test.YtehhcejekfibpaaGreatVEngC
import Derived.Test.YtehhcejekfibpaaGreatVEngD
set_option linter.unusedVariables false
set_option linter.unusedSimpArgs false
namespace Go.Eng
noncomputable section
def i (n:Int):AV:=.sc (.int .i64 n)
def tt : AV:=.sc (.bool true)
def ff : AV:=.sc (.bool false)
def st (l:List UInt8):AV:=.sc (.string ⟨l.toArray⟩)
def g (l:List AV):AV:=.agg l
def ls (l:List AV):AV:=.lit l
def li (l:List Int):AV:=.lit (l.map i)
def tu (l:List AV):AV:=.bM l
def z : AV:=.ax
def ns : AV:=.dV
def tm (a b:Int)(x:AV):AV:=.agg [i a,i b,x]
def nd (a b:Int)(x:AV)(c:Int)(y:AV)(d:Int)(z:AV):AV:=.agg [i a,i b,x,i c,y,i d,z]
def xt (m:Nat)(l:List (List AV×AV)):List AV→af→Option (AV×af):=
 match m with
 | 0=>uP l
 | 1=>C4 400 (uP l)
 | _=>Lw 400 (uP l)
def Nr (T:FT):List (Nat×Nat×List (List AV×AV))→FT
 | []=>T
 | x::r=>(Nr T r).C5 x.1 (xt x.2.1 x.2.2)
def cP (P:Program)(f:Nat)(e:List AV×AV):Prop:=∀ S,cL P f e.1 S fun r a=>r=.ret e.2∧a=S
def Ik (P:Program)(f:Nat):List (List AV×AV)→Prop
 | []=>True
 | e::r=>cP P f e∧Ik P f r
def Q3 (P:Program):List (Nat×Nat×List (List AV×AV))→Prop
 | []=>True
 | x::r=>(Nat.ble x.1 1023=true∧Ik P x.1 x.2.2)∧Q3 P r
variable {P : Program} {f : Nat}
theorem xk : ∀ {l:List (List AV×AV)},Ik P f l→zB P f l:=by
 intro l
 induction l with
 | nil=>intro _ a v h;simp at h
 | cons e r b=>
   intro h a v hm S
   rcases List.mem_cons.1 hm with rfl | hm
   · exact h.1 S
   · exact b h.2 a v hm S
theorem M4 {m:Nat}{l:List (List AV×AV)}(h:Ik P f l):∀ args S v b,xt m l args S=some (v,b)→cL P f args S fun r a=>r=.ret v∧a=b:=by
 unfold xt
 split
 · exact sI (xk h)
 · exact Bz (sI (xk h))
 · exact Fw (sI (xk h))
variable {T : FT}
theorem L0 (h:cq T P):∀ {l:List (Nat×Nat×List (List AV×AV))},Q3 P l→cq (Nr T l) P:=by
 intro l
 induction l with
 | nil=>intro _;exact h
 | cons x r b=>
   intro a
   exact(b a.2).ext (Nat.lt_succ_of_le (ed a.1.1)) (M4 a.1.2)
theorem cl (b:cq T P)(c:P.follows .mixedOrders=true){n d k:Nat}{e:List AV×AV}(h:closed T P n d k f e.1=some e.2)(a:(bF e.1&&aq e.2)=true):cP P f e:=by
 simp only[Bool.and_eq_true] at a
 exact fun S=>wu b c h a.1 a.2 S
end
end Go.Eng
namespace Go.Eng
noncomputable section
mutual
def A7 (S:af):Nat→AV→Option AV
 | 0,_=>none
 | n+1,.ak id off len=>match S.get id with
   | some (.arr _ es)=>match Nat.beq off 0&&Nat.beq len es.length with
     | true=>match xF S n es with
       | some l=>some (.lit l)
       | none=>none
     | false=>none
   | _=>none
 | n+1,.agg cs=>match xF S n cs with
   | some l=>some (.agg l)
   | none=>none
 | n+1,.bM cs=>match xF S n cs with
   | some l=>some (.bM l)
   | none=>none
 | n+1,.eS t v=>match A7 S n v with
   | some x=>some (.eS t x)
   | none=>none
 | _+1,v=>match aq v with
   | true=>some v
   | false=>none
def xF (S:af):Nat→List AV→Option (List AV)
 | 0,_=>none
 | _+1,[]=>some []
 | n+1,v::r=>match A7 S n v with
   | some x=>match xF S n r with
     | some l=>some (x::l)
     | none=>none
   | none=>none
end
variable {S : af} {l l' : List AV}
theorem Fz.abC (h:Nz S l l'):Fz S (.agg l) (.agg l'):=by
 induction h with
 | nil=>exact Fz.Pa
 | cons h _ a=>exact Fz.MO h a
theorem Fz.abD (h:Nz S l l'):Fz S (.bM l) (.bM l'):=by
 induction h with
 | nil=>exact Fz.Pb
 | cons h _ a=>exact Fz.n5 h a
theorem JW : ∀(n:Nat),(∀ v w,A7 S n v=some w→Fz S v w)∧(∀ l l', xF S n l=some l' → Nz S l l'):=by
 intro n
 induction n with
 | zero=>exact⟨fun v w h=>by simp[A7] at h,fun l l' h=>by simp[xF] at h⟩
 | succ n b=>
   refine⟨fun v w h=>?_,fun l l' h=>?_⟩
   · have other:(match aq v with | true=>some v | false=>none)=some w→Fz S v w:=by
       intro h
       split at h<;>simp only[an,reduceCtorEq] at h
       rename_i g;subst h;exact .pure g
     cases v with
     | ak id off len=>
       simp only[A7] at h
       split at h<;>try (simp at h;done)
       rename_i sz es i
       split at h<;>try (simp at h;done)
       rename_i c
       split at h<;>simp only[an,reduceCtorEq] at h
       rename_i l' a
       simp only[Bool.and_eq_true] at c
       have h0:=jj c.1
       have h1:=jj c.2
       subst h;subst h0
       exact Fz.P7 i h1 (b.2 _ _ a)
     | agg cs=>
       simp only[A7] at h
       split at h<;>simp only[an,reduceCtorEq] at h
       rename_i l' a;subst h;exact Fz.abC (b.2 _ _ a)
     | bM cs=>
       simp only[A7] at h
       split at h<;>simp only[an,reduceCtorEq] at h
       rename_i l' a;subst h;exact Fz.abD (b.2 _ _ a)
     | eS t v=>
       simp only[A7] at h
       split at h<;>simp only[an,reduceCtorEq] at h
       rename_i l' a;subst h;exact .eS (b.1 _ _ a)
     | _=>exact other (by simpa only[A7] using h)
   · cases l with
     | nil=>simp only[xF,an] at h;subst h;exact .nil
     | cons v r=>
       simp only[xF] at h
       split at h<;>try (simp at h;done)
       rename_i x hx
       split at h<;>simp only[an,reduceCtorEq] at h
       rename_i l2 d
       subst h
       exact .cons (b.1 _ _ hx) (b.2 _ _ d)
def wX (T:FT)(P:Program):List Nat→St→St
 | [],s=>s
 | d::r,s=>wX T P r (St.rep T P d s)
def NS (k:Nat)(s:St):Option AV:=
 match s with
 | .done (.ret v) S=>A7 S k v
 | _=>none
def Gt (ks:List (List Nat))(ids:List Nat)(s:St):Option St:=
 match mf s with
 | true=>some (qh ks ids s)
 | false=>none
section
variable {T : FT} {P : Program} {Q : gI → af → Prop}
theorem zX (b:cq T P)(a:P.follows .mixedOrders=true):∀(l:List Nat) {s:St},aA P Q (wX T P l s)→aA P Q s:=by
 intro l
 induction l with
 | nil=>intro s h;exact h
 | cons d r c=>intro s h;exact zg b a d (c h)
variable {k : Nat} {s : St} {w : AV}
theorem L2 (b:cq T P)(a:P.follows .mixedOrders=true){l:List Nat}(h:NS k (wX T P l s)=some w):SX P (RQ w) s:=by
 refine⟨zX b a l ?_⟩
 generalize wX T P l s=s at h
 unfold NS at h
 split at h<;>try (simp at h;done)
 exact⟨_,rfl,(JW k).1 _ _ h⟩
variable {f : Nat} {e : List AV × AV} {ks : List (List Nat)} {ids : List Nat} {s' : St}
theorem ati (c:cq T P)(a:P.follows .mixedOrders=true){l1 l2:List Nat}(b:(bF e.1&&aq e.2)=true)(h1:Gt ks ids (wX T P l1 (St.start T f e.1 af.empty))=some s')(h2:NS k (wX T P l2 s')=some e.2):cP P f e:=by
 simp only[Bool.and_eq_true] at b
 have E:bL T P:=⟨c,a⟩
 refine fun S=>zk E b.1 b.2 ?_ S
 refine⟨zX c a l1 ?_⟩
 generalize wX T P l1 (St.start T f e.1 af.empty)=s at h1
 unfold Gt at h1
 split at h1<;>simp only[an,reduceCtorEq] at h1
 rename_i d
 exact(zF E (BT b.2) 0 ks ids (show mf (ab T P 0 s)=true from d) h1 (L2 c a h2)).out
theorem GW (c:cq T P)(a:P.follows .mixedOrders=true)(d:aq w=true){l:List Nat}(h:Gt ks ids (wX T P l s)=some s')(q:SX P (RQ w) s'):SX P (RQ w) s:=by
 refine⟨zX c a l ?_⟩
 generalize wX T P l s=s at h
 unfold Gt at h
 split at h<;>simp only[an,reduceCtorEq] at h
 rename_i b
 exact(zF ⟨c,a⟩ (BT d) 0 ks ids (show mf (ab T P 0 s)=true from b) h q).out
theorem aq5 (b:cq T P)(a:P.follows .mixedOrders=true)(c:bF e.1=true)(d:aq e.2=true)(h:SX P (RQ e.2) (St.start T f e.1 af.empty)):cP P f e:=
 fun S=>zk ⟨b,a⟩ c d h S
end
end
end Go.Eng

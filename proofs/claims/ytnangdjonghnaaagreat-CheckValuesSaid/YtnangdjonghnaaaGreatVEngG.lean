/- Closed runs: stood-in functions and tables; no conditions. -/
import Derived.Test.YtnangdjonghnaaaGreatVEngC
import Derived.Test.YtnangdjonghnaaaGreatVEngD
set_option linter.unusedVariables false
set_option linter.unusedSimpArgs false
namespace Go.Eng
noncomputable section
def i (n:Int):AV:=.sc (.int .i64 n)
def tt : AV:=.sc (.bool true)
def ff : AV:=.sc (.bool false)
def st (l:List UInt8):AV:=.sc (.string ⟨l.toArray⟩)
def g (l:List AV):AV:=.agg l
def ls (l:List AV):AV:=.lit l
def li (l:List Int):AV:=.lit (l.map i)
def tu (l:List AV):AV:=.bm l
def z : AV:=.an
def ns : AV:=.eG
def tm (a b:Int)(x:AV):AV:=.agg [i a,i b,x]
def nd (a b:Int)(x:AV)(c:Int)(y:AV)(d:Int)(z:AV):AV:=.agg [i a,i b,x,i c,y,i d,z]
def xt (m:Nat)(l:List (List AV×AV)):List AV→af→Option (AV×af):=
 match m with
 | 0=>vP l
 | 1=>D3 400 (vP l)
 | _=>LU 400 (vP l)
def NL (T:FT):List (Nat×Nat×List (List AV×AV))→FT
 | []=>T
 | x::r=>(NL T r).D4 x.1 (xt x.2.1 x.2.2)
def cP (P:Program)(f:Nat)(e:List AV×AV):Prop:=∀ S,dc P f e.1 S fun r a=>r=.ret e.2∧a=S
def IK (P:Program)(f:Nat):List (List AV×AV)→Prop
 | []=>True
 | e::r=>cP P f e∧IK P f r
def Q9 (P:Program):List (Nat×Nat×List (List AV×AV))→Prop
 | []=>True
 | x::r=>(Nat.ble x.1 1023=true∧IK P x.1 x.2.2)∧Q9 P r
variable {P : Program} {f : Nat}
theorem x8 : ∀ {l:List (List AV×AV)},IK P f l→An P f l:=by
 intro l
 induction l with
 | nil=>intro _ a v h;simp at h
 | cons e r b=>
   intro h a v hm S
   rcases List.mem_cons.1 hm with rfl | hm
   · exact h.1 S
   · exact b h.2 a v hm S
theorem Nq {m:Nat}{l:List (List AV×AV)}(h:IK P f l):∀ args S v b,xt m l args S=some (v,b)→dc P f args S fun r a=>r=.ret v∧a=b:=by
 unfold xt
 split
 · exact tF (x8 h)
 · exact Ca (tF (x8 h))
 · exact Gl (tF (x8 h))
variable {T : FT}
theorem Mo (h:cF T P):∀ {l:List (Nat×Nat×List (List AV×AV))},Q9 P l→cF (NL T l) P:=by
 intro l
 induction l with
 | nil=>intro _;exact h
 | cons x r b=>
   intro a
   exact(b a.2).ext (Nat.lt_succ_of_le (eL a.1.1)) (Nq a.1.2)
theorem cl (b:cF T P)(c:P.follows .mixedOrders=true){n d k:Nat}{e:List AV×AV}(h:closed T P n d k f e.1=some e.2)(a:(br e.1&&aq e.2)=true):cP P f e:=by
 simp only[Bool.and_eq_true] at a
 exact fun S=>xl b c h a.1 a.2 S
end
end Go.Eng
namespace Go.Eng
noncomputable section
mutual
def BI (S:af):Nat→AV→Option AV
 | 0,_=>none
 | n+1,.aj id off len=>match S.get id with
   | some (.arr _ es)=>match Nat.beq off 0&&Nat.beq len es.length with
     | true=>match yw S n es with
       | some l=>some (.lit l)
       | none=>none
     | false=>none
   | _=>none
 | n+1,.agg cs=>match yw S n cs with
   | some l=>some (.agg l)
   | none=>none
 | n+1,.bm cs=>match yw S n cs with
   | some l=>some (.bm l)
   | none=>none
 | n+1,.fq t v=>match BI S n v with
   | some x=>some (.fq t x)
   | none=>none
 | _+1,v=>match aq v with
   | true=>some v
   | false=>none
def yw (S:af):Nat→List AV→Option (List AV)
 | 0,_=>none
 | _+1,[]=>some []
 | n+1,v::r=>match BI S n v with
   | some x=>match yw S n r with
     | some l=>some (x::l)
     | none=>none
   | none=>none
end
variable {S : af} {l l' : List AV}
theorem Fz.abt (h:NU S l l'):Fz S (.agg l) (.agg l'):=by
 induction h with
 | nil=>exact Fz.Pr
 | cons h _ a=>exact Fz.M9 h a
theorem Fz.abu (h:NU S l l'):Fz S (.bm l) (.bm l'):=by
 induction h with
 | nil=>exact Fz.Ps
 | cons h _ a=>exact Fz.iH h a
theorem Kn : ∀(n:Nat),(∀ v w,BI S n v=some w→Fz S v w)∧(∀ l l', yw S n l=some l' → NU S l l'):=by
 intro n
 induction n with
 | zero=>exact⟨fun v w h=>by simp[BI] at h,fun l l' h=>by simp[yw] at h⟩
 | succ n b=>
   refine⟨fun v w h=>?_,fun l l' h=>?_⟩
   · have other:(match aq v with | true=>some v | false=>none)=some w→Fz S v w:=by
       intro h
       split at h<;>simp only[ar,reduceCtorEq] at h
       rename_i g;subst h;exact .pure g
     cases v with
     | aj id off len=>
       simp only[BI] at h
       split at h<;>try (simp at h;done)
       rename_i sz es i
       split at h<;>try (simp at h;done)
       rename_i c
       split at h<;>simp only[ar,reduceCtorEq] at h
       rename_i l' a
       simp only[Bool.and_eq_true] at c
       have h0:=jK c.1
       have h1:=jK c.2
       subst h;subst h0
       exact Fz.Qn i h1 (b.2 _ _ a)
     | agg cs=>
       simp only[BI] at h
       split at h<;>simp only[ar,reduceCtorEq] at h
       rename_i l' a;subst h;exact Fz.abt (b.2 _ _ a)
     | bm cs=>
       simp only[BI] at h
       split at h<;>simp only[ar,reduceCtorEq] at h
       rename_i l' a;subst h;exact Fz.abu (b.2 _ _ a)
     | fq t v=>
       simp only[BI] at h
       split at h<;>simp only[ar,reduceCtorEq] at h
       rename_i l' a;subst h;exact .fq (b.1 _ _ a)
     | _=>exact other (by simpa only[BI] using h)
   · cases l with
     | nil=>simp only[yw,ar] at h;subst h;exact .nil
     | cons v r=>
       simp only[yw] at h
       split at h<;>try (simp at h;done)
       rename_i x hx
       split at h<;>simp only[ar,reduceCtorEq] at h
       rename_i l2 d
       subst h
       exact .cons (b.1 _ _ hx) (b.2 _ _ d)
def xL (T:FT)(P:Program):List Nat→St→St
 | [],s=>s
 | d::r,s=>xL T P r (St.rep T P d s)
def N9 (k:Nat)(s:St):Option AV:=
 match s with
 | .done (.ret v) S=>BI S k v
 | _=>none
def G5 (ks:List (List Nat))(ids:List Nat)(s:St):Option St:=
 match mL s with
 | true=>some (q9 ks ids s)
 | false=>none
section
variable {T : FT} {P : Program} {Q : ic → af → Prop}
theorem AI (b:cF T P)(a:P.follows .mixedOrders=true):∀(l:List Nat) {s:St},aJ P Q (xL T P l s)→aJ P Q s:=by
 intro l
 induction l with
 | nil=>intro s h;exact h
 | cons d r c=>intro s h;exact zU b a d (c h)
variable {k : Nat} {s : St} {w : AV}
theorem Mp (b:cF T P)(a:P.follows .mixedOrders=true){l:List Nat}(h:N9 k (xL T P l s)=some w):SX P (RQ w) s:=by
 refine⟨AI b a l ?_⟩
 generalize xL T P l s=s at h
 unfold N9 at h
 split at h<;>try (simp at h;done)
 exact⟨_,rfl,(Kn k).1 _ _ h⟩
variable {f : Nat} {e : List AV × AV} {ks : List (List Nat)} {ids : List Nat} {s' : St}
theorem atz (c:cF T P)(a:P.follows .mixedOrders=true){l1 l2:List Nat}(b:(br e.1&&aq e.2)=true)(h1:G5 ks ids (xL T P l1 (St.start T f e.1 af.empty))=some s')(h2:N9 k (xL T P l2 s')=some e.2):cP P f e:=by
 simp only[Bool.and_eq_true] at b
 have E:bZ T P:=⟨c,a⟩
 refine fun S=>zY E b.1 b.2 ?_ S
 refine⟨AI c a l1 ?_⟩
 generalize xL T P l1 (St.start T f e.1 af.empty)=s at h1
 unfold G5 at h1
 split at h1<;>simp only[ar,reduceCtorEq] at h1
 rename_i d
 exact(Aq E (CI b.2) 0 ks ids (show mL (ab T P 0 s)=true from d) h1 (Mp c a h2)).out
theorem Hv (c:cF T P)(a:P.follows .mixedOrders=true)(d:aq w=true){l:List Nat}(h:G5 ks ids (xL T P l s)=some s')(q:SX P (RQ w) s'):SX P (RQ w) s:=by
 refine⟨AI c a l ?_⟩
 generalize xL T P l s=s at h
 unfold G5 at h
 split at h<;>simp only[ar,reduceCtorEq] at h
 rename_i b
 exact(Aq ⟨c,a⟩ (CI d) 0 ks ids (show mL (ab T P 0 s)=true from b) h q).out
theorem aq7 (b:cF T P)(a:P.follows .mixedOrders=true)(c:br e.1=true)(d:aq e.2=true)(h:SX P (RQ e.2) (St.start T f e.1 af.empty)):cP P f e:=
 fun S=>zY ⟨b,a⟩ c d h S
end
end
end Go.Eng

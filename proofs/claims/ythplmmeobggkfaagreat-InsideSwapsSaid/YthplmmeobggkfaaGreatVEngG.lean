/- Closed runs: stood-in functions and tables; no conditions. -/
import Derived.Test.YthplmmeobggkfaaGreatVEngC
import Derived.Test.YthplmmeobggkfaaGreatVEngD
set_option linter.all false
namespace Go.Eng
noncomputable section
def i (n:Int):AV:=.sc (.int .i64 n)
def tt : AV:=.sc (.bool true)
def ff : AV:=.sc (.bool false)
def st (l:List UInt8):AV:=.sc (.string ⟨l.toArray⟩)
def g (l:List AV):AV:=.agg l
def ls (l:List AV):AV:=.lit l
def li (l:List Int):AV:=.lit (l.map i)
def tu (l:List AV):AV:=.bO l
def z : AV:=.an
def ns : AV:=.ft
def tm (a b:Int)(x:AV):AV:=.agg [i a,i b,x]
def nd (a b:Int)(x:AV)(c:Int)(y:AV)(d:Int)(z:AV):AV:=.agg [i a,i b,x,i c,y,i d,z]
def xt (m:Nat)(l:List (List AV×AV)):List AV→ag→Option (AV×ag):=
 match m with
 | 0=>zt l
 | 1=>JL 400 (zt l)
 | _=>T8 400 (zt l)
def Tb (T:FT):List (Nat×Nat×List (List AV×AV))→FT
 | []=>T
 | x::r=>(Tb T r).Ap x.1 (xt x.2.1 x.2.2)
def cP (P:Program)(f:Nat)(e:List AV×AV):Prop:=∀ S,fU P f e.1 S fun r a=>r=.ret e.2∧a=S
def Qo (P:Program)(f:Nat):List (List AV×AV)→Prop
 | []=>True
 | e::r=>cP P f e∧Qo P f r
def aal (P:Program):List (Nat×Nat×List (List AV×AV))→Prop
 | []=>True
 | x::r=>(Nat.ble x.1 1023=true∧Qo P x.1 x.2.2)∧aal P r
variable {P : Program} {f : Nat}
theorem Ch : ∀ {l:List (List AV×AV)},Qo P f l→Fg P f l:=by
 intro l
 induction l with
 | nil=>intro _ a v h;simp at h
 | cons e r b=>
   intro h a v hm S
   rcases dE.1 hm with rfl | hm
   · exact h.1 S
   · exact b h.2 a v hm S
theorem VU {m:Nat}{l:List (List AV×AV)}(h:Qo P f l):∀ args S v b,xt m l args S=some (v,b)→fU P f args S fun r a=>r=.ret v∧a=b:=by
 unfold xt
 split
 · exact vS (Ch h)
 · exact HA (vS (Ch h))
 · exact MG (vS (Ch h))
variable {T : FT}
theorem UL (h:dh T P):∀ {l:List (Nat×Nat×List (List AV×AV))},aal P l→dh (Tb T l) P:=by
 intro l
 induction l with
 | nil=>intro _;exact h
 | cons x r b=>
   intro a
   exact(b a.2).ext (Nat.lt_succ_of_le (gw a.1.1)) (VU a.1.2)
theorem cl (b:dh T P)(c:P.follows .mixedOrders=true){n d k:Nat}{e:List AV×AV}(h:closed T P n d k f e.1=some e.2)(a:(cF e.1&&aV e.2)=true):cP P f e:=by
 simp only[aS] at a
 exact fun S=>Kc b c h a.1 a.2 S
end
end Go.Eng
namespace Go.Eng
noncomputable section
mutual
def Ha (S:ag):Nat→AV→Option AV
 | 0,_=>none
 | n+1,.ai id off len=>match S.get id with
   | some (.arr _ es)=>match Nat.beq off 0&&Nat.beq len es.length with
     | true=>match C6 S n es with
       | some l=>some (.lit l)
       | none=>none
     | false=>none
   | _=>none
 | n+1,.agg cs=>match C6 S n cs with
   | some l=>some (.agg l)
   | none=>none
 | n+1,.bO cs=>match C6 S n cs with
   | some l=>some (.bO l)
   | none=>none
 | n+1,.eu t v=>match Ha S n v with
   | some x=>some (.eu t x)
   | none=>none
 | _+1,v=>match aV v with
   | true=>some v
   | false=>none
def C6 (S:ag):Nat→List AV→Option (List AV)
 | 0,_=>none
 | _+1,[]=>some []
 | n+1,v::r=>match Ha S n v with
   | some x=>match C6 S n r with
     | some l=>some (x::l)
     | none=>none
   | none=>none
end
variable {S : ag} {l l' : List AV}
theorem Fz.ajE (h:Er S l l'):Fz S (.agg l) (.agg l'):=by
 induction h with
 | nil=>exact Fz.Yx
 | cons h _ a=>exact Fz.aw h a
theorem Fz.ajF (h:Er S l l'):Fz S (.bO l) (.bO l'):=by
 induction h with
 | nil=>exact Fz.Yy
 | cons h _ a=>exact Fz.bw h a
theorem Su : ∀(n:Nat),(∀ v w,Ha S n v=some w→Fz S v w)∧(∀ l l', C6 S n l=some l' → Er S l l'):=by
 intro n
 induction n with
 | zero=>exact⟨fun v w h=>by simp[Ha] at h,fun l l' h=>by simp[C6] at h⟩
 | succ n b=>
   refine⟨fun v w h=>?_,fun l l' h=>?_⟩
   · have other:(match aV v with | true=>some v | false=>none)=some w→Fz S v w:=by
       intro h
       split at h<;>simp only[bj,reduceCtorEq] at h
       rename_i e;subst h;exact .pure e
     cases v with
     | ai id off len=>
       simp only[Ha] at h
       split at h<;>try (simp at h;done)
       rename_i sz es f
       split at h<;>try (simp at h;done)
       rename_i c
       split at h<;>simp only[bj,reduceCtorEq] at h
       rename_i l' a
       simp only[aS] at c
       have g:=oR c.1
       have h1:=oR c.2
       subst h;subst g
       exact Fz.yU f h1 (b.2 _ _ a)
     | agg cs=>
       simp only[Ha] at h
       split at h<;>simp only[bj,reduceCtorEq] at h
       rename_i l' a;subst h;exact Fz.ajE (b.2 _ _ a)
     | bO cs=>
       simp only[Ha] at h
       split at h<;>simp only[bj,reduceCtorEq] at h
       rename_i l' a;subst h;exact Fz.ajF (b.2 _ _ a)
     | eu t v=>
       simp only[Ha] at h
       split at h<;>simp only[bj,reduceCtorEq] at h
       rename_i l' a;subst h;exact .eu (b.1 _ _ a)
     | _=>exact other (by simpa only[Ha] using h)
   · cases l with
     | nil=>simp only[C6,bj] at h;subst h;exact .nil
     | cons v r=>
       simp only[C6] at h
       split at h<;>try (simp at h;done)
       rename_i x hx
       split at h<;>simp only[bj,reduceCtorEq] at h
       rename_i l2 d
       subst h
       exact .cons (b.1 _ _ hx) (b.2 _ _ d)
def Hb (T:FT)(P:Program):List Nat→St→St
 | [],s=>s
 | d::r,s=>Hb T P r (St.rep T P d s)
def aam (k:Nat)(s:St):Option AV:=
 match s with
 | .done (.ret v) S=>Ha S k v
 | _=>none
def Tt (a:List (List Nat))(ids:List Nat)(s:St):Option St:=
 match lC s with
 | true=>some (qT a ids s)
 | false=>none
section
variable {T : FT} {P : Program} {Q : gQ → ag → Prop}
theorem L9 (b:dh T P)(a:P.follows .mixedOrders=true):∀(l:List Nat) {s:St},br P Q (Hb T P l s)→br P Q s:=by
 intro l
 induction l with
 | nil=>intro s h;exact h
 | cons d r c=>intro s h;exact Ez b a d (c h)
variable {s : St} {w : AV}
theorem aeF (b:dh T P)(a:P.follows .mixedOrders=true){k:Nat}{l:List Nat}(h:aam k (Hb T P l s)=some w):SX P (RQ w) s:=by
 refine⟨L9 b a l ?_⟩
 generalize Hb T P l s=s at h
 unfold aam at h
 split at h<;>try (simp at h;done)
 exact⟨_,rfl,(Su k).1 _ _ h⟩
theorem OB (c:dh T P)(a:P.follows .mixedOrders=true)(e:aV w=true){l:List Nat}{d:List (List Nat)}{ids:List Nat}{s' : St}(h:Tt d ids (Hb T P l s)=some s')(q:SX P (RQ w) s'):SX P (RQ w) s:=by
 refine⟨L9 c a l ?_⟩
 generalize Hb T P l s=s at h
 unfold Tt at h
 split at h<;>simp only[bj,reduceCtorEq] at h
 rename_i b
 exact(Il ⟨c,a⟩ (Ik e) 0 d ids (show lC (ab T P 0 s)=true from b) h q).out
theorem auu (b:dh T P)(a:P.follows .mixedOrders=true){f:Nat}{e:List AV×AV}(ha:cF e.1=true)(c:aV e.2=true)(h:SX P (RQ e.2) (St.start T f e.1 ag.empty)):cP P f e:=
 fun S=>EF ⟨b,a⟩ ha c h S
end
end
end Go.Eng

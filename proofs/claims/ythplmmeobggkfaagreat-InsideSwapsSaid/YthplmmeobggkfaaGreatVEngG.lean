/- Closed runs: stood-in functions and tables; no conditions. -/
import Derived.Test.YthplmmeobggkfaaGreatVEngC
import Derived.Test.YthplmmeobggkfaaGreatVEngD
set_option linter.all false
namespace Go.Eng
noncomputable section
def i (n:Int):AV:=.sc (.int .i64 n)
def tt : AV:=.sc (.bool true)
def ff : AV:=.sc (.bool false)
def st (l:List UInt8):AV:=.sc (.string ⟨l.toArray⟩)
def g (l:List AV):AV:=.agg l
def ls (l:List AV):AV:=.lit l
def li (l:List Int):AV:=.lit (l.map i)
def tu (l:List AV):AV:=.bO l
def z : AV:=.an
def ns : AV:=.fw
def tm (a b:Int)(x:AV):AV:=.agg [i a,i b,x]
def nd (a b:Int)(x:AV)(c:Int)(y:AV)(d:Int)(z:AV):AV:=.agg [i a,i b,x,i c,y,i d,z]
def xt (m:Nat)(l:List (List AV×AV)):List AV→ag→Option (AV×ag):=
 match m with
 | 0=>zE l
 | 1=>JT 400 (zE l)
 | _=>Uc 400 (zE l)
def Te (T:FT):List (Nat×Nat×List (List AV×AV))→FT
 | []=>T
 | x::r=>(Te T r).AD x.1 (xt x.2.1 x.2.2)
def cP (P:Program)(f:Nat)(e:List AV×AV):Prop:=∀ S,fY P f e.1 S fun r a=>r=.ret e.2∧a=S
def Qq (P:Program)(f:Nat):List (List AV×AV)→Prop
 | []=>True
 | e::r=>cP P f e∧Qq P f r
def aan (P:Program):List (Nat×Nat×List (List AV×AV))→Prop
 | []=>True
 | x::r=>(Nat.ble x.1 1023=true∧Qq P x.1 x.2.2)∧aan P r
variable {P : Program} {f : Nat}
theorem Cp : ∀ {l:List (List AV×AV)},Qq P f l→Fq P f l:=by
 intro l
 induction l with
 | nil=>intro _ a v h;simp at h
 | cons e r b=>
   intro h a v hm S
   rcases cF.1 hm with rfl | hm
   · exact h.1 S
   · exact b h.2 a v hm S
theorem VX {m:Nat}{l:List (List AV×AV)}(h:Qq P f l):∀ args S v b,xt m l args S=some (v,b)→fY P f args S fun r a=>r=.ret v∧a=b:=by
 unfold xt
 split
 · exact vY (Cp h)
 · exact HG (vY (Cp h))
 · exact MK (vY (Cp h))
variable {T : FT}
theorem UO (h:di T P):∀ {l:List (Nat×Nat×List (List AV×AV))},aan P l→di (Te T l) P:=by
 intro l
 induction l with
 | nil=>intro _;exact h
 | cons x r b=>
   intro a
   exact(b a.2).ext (Nat.lt_succ_of_le (gb a.1.1)) (VX a.1.2)
theorem cl (b:di T P)(c:P.follows .mixedOrders=true){n d k:Nat}{e:List AV×AV}(h:closed T P n d k f e.1=some e.2)(a:(cG e.1&&aV e.2)=true):cP P f e:=by
 simp only[aY] at a
 exact fun S=>Kk b c h a.1 a.2 S
end
noncomputable section
mutual
def Hg (S:ag):Nat→AV→Option AV
 | 0,_=>none
 | n+1,.ai id off len=>match S.get id with
   | some (.arr _ es)=>match Nat.beq off 0&&Nat.beq len es.length with
     | true=>match Dd S n es with
       | some l=>some (.lit l)
       | none=>none
     | false=>none
   | _=>none
 | n+1,.agg cs=>match Dd S n cs with
   | some l=>some (.agg l)
   | none=>none
 | n+1,.bO cs=>match Dd S n cs with
   | some l=>some (.bO l)
   | none=>none
 | n+1,.eB t v=>match Hg S n v with
   | some x=>some (.eB t x)
   | none=>none
 | _+1,v=>match aV v with
   | true=>some v
   | false=>none
def Dd (S:ag):Nat→List AV→Option (List AV)
 | 0,_=>none
 | _+1,[]=>some []
 | n+1,v::r=>match Hg S n v with
   | some x=>match Dd S n r with
     | some l=>some (x::l)
     | none=>none
   | none=>none
end
variable {S : ag} {l l' : List AV}
theorem Fz.ajG (h:EB S l l'):Fz S (.agg l) (.agg l'):=by
 induction h<;>simp_all[Fz.Yy,Fz.aw]
theorem Fz.ajH (h:EB S l l'):Fz S (.bO l) (.bO l'):=by
 induction h<;>simp_all[Fz.Yz,Fz.bw]
theorem Sx : ∀(n:Nat),(∀ v w,Hg S n v=some w→Fz S v w)∧(∀ l l', Dd S n l=some l' → EB S l l'):=by
 intro n
 induction n with
 | zero=>simp_all[Hg,Dd]
 | succ n b=>
   refine⟨fun v w h=>?_,fun l l' h=>?_⟩
   · have other:(match aV v with | true=>some v | false=>none)=some w→Fz S v w:=by
       intro h
       split at h<;>simp only[ba,reduceCtorEq] at h
       rename_i e;subst h;exact .pure e
     cases v with
     | ai id off len=>
       simp only[Hg] at h
       split at h<;>try (simp at h;done)
       rename_i sz es f
       split at h<;>try (simp at h;done)
       rename_i c
       split at h<;>simp only[ba,reduceCtorEq] at h
       rename_i l' a
       simp only[aY] at c
       have g:=np c.1
       have h1:=np c.2
       subst h;subst g
       exact Fz.zf f h1 (b.2 _ _ a)
     | agg cs=>
       simp only[Hg] at h
       split at h<;>simp only[ba,reduceCtorEq] at h
       rename_i l' a;subst h;exact Fz.ajG (b.2 _ _ a)
     | bO cs=>
       simp only[Hg] at h
       split at h<;>simp only[ba,reduceCtorEq] at h
       rename_i l' a;subst h;exact Fz.ajH (b.2 _ _ a)
     | eB t v=>
       simp only[Hg] at h
       split at h<;>simp only[ba,reduceCtorEq] at h
       rename_i l' a;subst h;exact .eB (b.1 _ _ a)
     | _=>exact other (by simpa only[Hg] using h)
   · cases l with
     | nil=>simp only[Dd,ba] at h;subst h;exact .nil
     | cons v r=>
       simp only[Dd] at h
       split at h<;>try (simp at h;done)
       rename_i x hx
       split at h<;>simp only[ba,reduceCtorEq] at h
       rename_i l2 d
       subst h
       exact .cons (b.1 _ _ hx) (b.2 _ _ d)
def Hh (T:FT)(P:Program):List Nat→St→St
 | [],s=>s
 | d::r,s=>Hh T P r (St.rep T P d s)
def aao (k:Nat)(s:St):Option AV:=
 match s with
 | .done (.ret v) S=>Hg S k v
 | _=>none
def Tx (a:List (List Nat))(ids:List Nat)(s:St):Option St:=
 match lJ s with
 | true=>some (qY a ids s)
 | false=>none
section
variable {T : FT} {P : Program} {Q : gL → ag → Prop}
theorem Me (b:di T P)(a:P.follows .mixedOrders=true):∀(l:List Nat) {s:St},br P Q (Hh T P l s)→br P Q s:=by
 intro l
 induction l with
 | nil=>intro s h;exact h
 | cons d r c=>intro s h;exact EJ b a d (c h)
variable {s : St} {w : AV}
theorem aeH (b:di T P)(a:P.follows .mixedOrders=true){k:Nat}{l:List Nat}(h:aao k (Hh T P l s)=some w):SX P (RQ w) s:=by
 refine⟨Me b a l ?_⟩
 generalize Hh T P l s=s at h
 unfold aao at h
 split at h<;>try (simp at h;done)
 exact⟨_,rfl,(Sx k).1 _ _ h⟩
theorem OE (c:di T P)(a:P.follows .mixedOrders=true)(e:aV w=true){l:List Nat}{d:List (List Nat)}{ids:List Nat}{s' : St}(h:Tx d ids (Hh T P l s)=some s')(q:SX P (RQ w) s'):SX P (RQ w) s:=by
 refine⟨Me c a l ?_⟩
 generalize Hh T P l s=s at h
 unfold Tx at h
 split at h<;>simp only[ba,reduceCtorEq] at h
 rename_i b
 exact(It ⟨c,a⟩ (Is e) 0 d ids (show lJ (ab T P 0 s)=true from b) h q).out
theorem auv (b:di T P)(a:P.follows .mixedOrders=true){f:Nat}{e:List AV×AV}(ha:cG e.1=true)(c:aV e.2=true)(h:SX P (RQ e.2) (St.start T f e.1 ag.empty)):cP P f e:=
 fun S=>EP ⟨b,a⟩ ha c h S
end
end
end Go.Eng

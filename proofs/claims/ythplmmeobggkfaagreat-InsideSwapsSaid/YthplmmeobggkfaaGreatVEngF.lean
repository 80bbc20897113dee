/- Contracts with several outcomes, the sort of numbers, and short forms for lifted functions; no conditions. -/
import Derived.Test.YthplmmeobggkfaaGreatVEngE
import Derived.KernelRfl
import Derived.Shelf.Sort.Plain
import Derived.Shelf.Slices.In.SortNone
set_option linter.all false
namespace Go.Eng
noncomputable section
variable {α R : Type}
open Classical in
noncomputable def BS (l:List α)(sn:List Nat)(e:Option R)(f:Nat→α→Option R):Option R:=
 if ∀ i,i<l.length→i∈sn then e else if h:∃ r,∀ i x,l[i]? = some x→i∉sn→f i x=some r then some h.choose else none
variable {sn : List Nat} {e : Option R} {r : R}
theorem VS {l:List α}{f:Nat→α→Option R}(h:BS l sn e f=some r):((∀ i,i<l.length→i∈sn)→e=some r)∧∀ i x,l[i]? = some x→i∉sn→f i x=some r:=by
 unfold BS at h
 split at h
 · rename_i a
   exact⟨fun _=>h,fun i x b c=>absurd (a i (mC.1 b).1) c⟩
 · rename_i a
   split at h
   · rename_i hx
     cases h
     exact⟨fun q=>absurd q a,hx.choose_spec⟩
   · cases h
theorem Pr : ∀ {n:List (AV×AV)} {b i:Nat} {k v:AV},(i,k,v)∈kI sn n b→∃ j,i=b+j∧n[j]? = some (k,v)∧i∉sn:=by
 intro n
 induction n with
 | nil=>intro b i k v h;simp[kI] at h
 | cons p r o=>
   obtain⟨t,v0⟩:=p
   intro b i k v h
   simp only[kI] at h
   have rest:(i,k,v)∈kI sn r (b+1)→∃ j,i=b+j∧((t,v0)::r)[j]? = some (k,v)∧i∉sn:=fun h=>by
     obtain⟨j,a,c,d⟩:=o h
     exact⟨j+1,by omega,by simpa using c,d⟩
   split at h
   · exact rest h
   · rename_i hb
     rcases dE.1 h with q | q
     · simp only[nj] at q
       obtain⟨rfl,rfl,rfl⟩:=q
       exact⟨0,rfl,rfl,fun q=>by rw[Ev.2 q] at hb;simp at hb⟩
     · exact rest q
theorem Ps : ∀ {a:List (AV×AV)} {b:Nat},kI sn a b=[]→∀ j,j<a.length→b+j∈sn:=by
 intro a
 induction a with
 | nil=>intro b _ j h;simp at h
 | cons p r c=>
   obtain⟨i,v0⟩:=p
   intro b h j d
   simp only[kI] at h
   split at h
   · rename_i hb
     cases j with
     | zero=>exact Ev.1 hb
     | succ j=>
       have:=c h j (by simpa using d)
       rwa [show b+(j+1)=b+1+j from by omega]
   · simp at h
variable {id m since : Nat}
theorem Sp {S:ag}{v:AV}{c:ag}:∀ {l:List (Nat×AV×AV)},(v,c)∈Fb S id m since sn l→∃ i k x,(i,k,x)∈l∧v=.bO [.sc (.bool true),k,x]∧c=S.set id (.mi m since (sn++[i])):=by
 intro l
 induction l with
 | nil=>intro h;simp[Fb] at h
 | cons p r d=>
   obtain⟨i,k,x⟩:=p
   intro h
   simp only[Fb] at h
   rcases dE.1 h with q | q
   · simp only[nj] at q
     exact⟨i,k,x,jU .., q.1,q.2⟩
   · obtain⟨i,k,x,a,b⟩:=d q
     exact⟨i,k,x,K5 _ a,b⟩
section
variable {α β : Type} {f : α → AV} {g : β → AV} {l : List (α × β)} {S : ag} {id m since : Nat} {sn : List Nat}
theorem IT (h1:S.get id=some (.mi m since sn))(h2:S.get m=some (.mp (l.map (cg f g))))(hs:since=l.length)(t:Nat.ble S.lim id=true):∃ L,Fc S (.ptr id 0 0)=some L∧∀ v n,(v,n)∈L →
   (v=.bO [.sc (.bool false)]∧n=S∧∀ i,i<l.length→i∈sn)∨∃ i x,l[i]? = some x∧i∉sn∧v=.bO [.sc (.bool true),f x.1,g x.2]∧n=S.set id (.mi m since (sn++[i])):=by
 subst hs
 refine⟨Lt S id m l.length sn (kI sn (l.map (cg f g)) 0),by simp only[Fc,h1,h2,t,sq,vy],fun v n d=>?_⟩
 cases o:kI sn (l.map (cg f g)) 0 with
 | nil=>
   rw[o] at d
   simp only[Lt,ug,nj] at d
   refine .inl ⟨d.1,d.2,fun i hi=>?_⟩
   have:=Ps o i (by simpa using hi)
   simpa using this
 | cons p r=>
   rw[o] at d
   simp only[Lt] at d
   obtain⟨i,k,x,a,b,c⟩:=Sp d
   rw[←o] at a
   obtain⟨j,q,h,u⟩:=Pr a
   rw[sl] at h
   cases hx:l[j]? with
   | none=>rw[hx] at h;simp at h
   | some y=>
     rw[hx] at h
     simp only[lP,bj,cg,nj] at h
     simp only[xf] at q
     subst q
     exact .inr ⟨i,y,hx,u,by rw[b,←h.1,←h.2],c⟩
theorem Sq : ∀(sn:List Nat) (i:Nat),Lu (sn++[i])=some i:=by
 intro sn
 induction sn with
 | nil=>intro i;rfl
 | cons a r c=>
   intro i
   cases r with
   | nil=>rfl
   | cons b r=>exact c i
def ZW (S:ag)(a:AV):Option de:=mM S (xT S a)
theorem Jz {i:Nat}{x:α×β}(h1:S.get id=some (.mi m since (sn++[i])))(h2:S.get m=some (.mp (l.map (cg f g))))(hs:since=l.length)(hx:l[i]? = some x):ZW S (.ptr id 0 0)=some (.val (.bO [f x.1,g x.2]) S):=by
 simp[ZW,xT,h1,h2,Sq,hs,vy,j4,hx,cg,mM]
end
theorem QI {σ:Nat→Nat}(m since:Nat)(sn:List Nat):(aL.mi m since sn).aY σ=.mi (σ m) since sn:=rfl
def WH (s:St):Option AV:=
 match s with
 | .run _ F _ k=>match flat k,dG s with
   | true,some o=>match o.op with
     | .next a false=>F.eval a
     | _=>none
   | _,_=>none
 | _=>none
section
variable {T : FT} {P : Program} {Qf : gQ → ag → Prop}
variable {s : St}
theorem QJ (y:dh T P)(c:P.follows .mixedOrders=true)(n:Nat){a:AV}{L:List (AV×ag)}(h:WH (ab T P n s)=some a)(j:Fc (jY (ab T P n s)) a=some L)(q:∀ v t,(v,t)∈L→br P Qf (ak v (some t) (ab T P n s))):br P Qf s:=by
 refine cL y c n ?_
 generalize ab T P n s=s at h j q
 cases s with
 | run fn F S k=>
   simp only[WH] at h
   split at h<;>try (simp at h;done)
   rename_i o u z
   split at h<;>try (simp at h;done)
   rename_i D b
   obtain⟨B,all,i,rest,td,w,x,C⟩:=pD z
   have j:Fc S a=some L:=j
   have hf:Ff F S o.op=some L:=by simp only[Ff,b,h,j]
   have:=fC.all (P:=P) (Qf:=Qf) (ι:={ p:AV×ag // p∈L }) (A:=fun p Q=>Reach P (F.after o p.1.1 all rest td) p.1.2 (GK P k fn Q)) u fun p=>by
    have:=q _ _ p.2
    simp only[ak,w,tp,x,gr] at this
    exact this
   exact fC.mono (fun Q q=>Reach.JK B w x C (by rw[b];rfl) hf fun v t d=>q ⟨(v,t),d⟩) this
 | _=>simp[WH] at h
end
section
variable {T : FT} {P : Program} {Q : gQ → ag → Prop} {α β R : Type} {f : α → AV} {g : β → AV}
variable {s : St}
theorem aeE (E:cU T P)(n:Nat){l:List (α×β)}{e:Option R}{F:Nat→α×β→Option R}{r:R}(h:BS l sn e F=some r)(q:WH (ab T P n s)=some (.ptr id 0 0))(h1:(jY (ab T P n s)).get id=some (.mi m since sn))(h2:(jY (ab T P n s)).get m=some (.mp (l.map (cg f g))))(hs:since=l.length)(u:Nat.ble (jY (ab T P n s)).lim id=true)(w:e=some r→SX P Q (eC (fun S=>.val (.bO [.sc (.bool false)]) S) (ab T P n s)))(y:∀ i x,l[i]? = some x→F i x=some r→SX P Q (eC (fun S=>.val (.bO [.sc (.bool true),f x.1,g x.2]) (S.set id (.mi m since (sn++[i])))) (ab T P n s))):SX P Q s:=by
 obtain⟨a,b⟩:=VS h
 obtain⟨L,c,d⟩:=IT h1 h2 hs u
 refine⟨QJ E.ok E.mix n q c fun v t z=>?_⟩
 have j:∀ r:ag→de,eC r (ab T P n s)=Jh (r (jY (ab T P n s))) (ab T P n s):=by
   intro r
   cases p:ab T P n s with
   | run fn F S k=>rfl
   | _=>rw[p] at q;simp[WH] at q
 have o:∀ v t,Jh (.val v t) (ab T P n s)=ak v (some t) (ab T P n s):=by
   intro v t
   cases p:ab T P n s with
   | run fn F S k=>rfl
   | _=>rw[p] at q;simp[WH] at q
 rcases d v t z with⟨rfl,rfl,k⟩ | ⟨i,x,k1,k2,rfl,rfl⟩
 · have:=(w (a k)).out
   rwa [j,o] at this
 · have:=(y i x k1 (b i x k1 k2)).out
   rwa [j,o] at this
end
end
end Go.Eng
namespace Go.Eng
abbrev dd {α:Type} [Inhabited α]:α:=default
variable {v : AV}
theorem pv (h:aV v=true:=by simp[aV,cF,dy,ct,-List.map_append,-List.map_drop,-List.map_take,-List.map_set,-List.map_replicate]):aV v=true:=h
theorem pl {l:List AV}(h:cF l=true:=by simp[aV,cF,dy,ct,-List.map_append,-List.map_drop,-List.map_take,-List.map_set,-List.map_replicate]):cF l=true:=h
variable {x : Int}
theorem iR {k:IntKind}(h:cw k x=true):some (AV.sc (.int k (k.wrap x)))=some (.sc (.int k x)):=by rw[Jv h]
structure CS {α : Type} (enc : α → AV) (cells : α → List AV) (m : Nat) : Prop where
 eq : ∀ x, (enc x).cells = cells x
 len : ∀ x, (cells x).length = m
theorem auj (k:IntKind):CS (az k) (fun n=>[.sc (.int k n)]) 1:=⟨fun _=>rfl,fun _=>rfl⟩
theorem asO : CS encS (fun n=>[.sc (.string n)]) 1:=⟨fun _=>rfl,fun _=>rfl⟩
section
variable {T : FT} {P : Program} {Q : gQ → ag → Prop} {s : St} {α β R : Type}
theorem yI (E:cU T P)(n:Nat){k:IntKind}{f:Option R}{r:R}(h:(if cw k x then f else none)=some r)(q:cw k x=true→f=some r→SX P Q (ak (.sc (.int k x)) none (ab T P n s)))(c:NR P (ab T P n s)=some (.sc (.int k (k.wrap x))):=by kernel_rfl):SX P Q s:=
 wO E n _ _ c (iR (WE h).1) (q (WE h).1 (WE h).2)
variable {b : Bool}
theorem yB (E:cU T P)(n:Nat){t f:Option R}{r:R}(h:(if b then t else f)=some r)(d:b=true→t=some r→SX P Q (ak (.sc (.bool true)) none (ab T P n s)))(e:b=false→f=some r→SX P Q (ak (.sc (.bool false)) none (ab T P n s)))(j:NR P (ab T P n s)=some (.sc (.bool b)):=by kernel_rfl):SX P Q s:=
 Tr E n b j (fun c=>d c (Zi c h)) (fun c=>e c (ZS c h))
theorem auk (E:cU T P)(n:Nat){t f:Option R}{r:R}(h:(if b then t else f)=some r)(d:b=true→t=some r→SX P Q (eC (fun S=>.val (.sc (.bool true)) S) (ab T P n s)))(e:b=false→f=some r→SX P Q (eC (fun S=>.val (.sc (.bool false)) S) (ab T P n s)))(j:yq P (ab T P n s)=some (.val (.sc (.bool b)) (e8 (ab T P n s))):=by kernel_rfl)(l:j3 (.val (.sc (.bool b)) (e8 (ab T P n s))) (ab T P n s)=true:=by kernel_rfl):SX P Q s:=
 ajA E n b j l (fun c=>d c (Zi c h)) (fun c=>e c (ZS c h))
theorem yX (E:cU T P)(n t el:Nat){enc:α→AV}{cells:α→List AV}{m:Nat}(c:CS enc cells m){l:List α}{i:Int}{f:α→Option R}{r:R}(h:(bP l i>>=f)=some r)
  (q:∀ x,bP l i=some x→f x=some r→SX P Q (ak (.dN (cells x)) none (ab T P n s))) (d:NR P (ab T P n s)=dP P ag.empty t (.lit (l.map enc)) (.sc (.int .i64 i)):=by kernel_rfl)
  (h1:P.underlying t=some (.slice el):=by kernel_rfl) (h2:te P el=some m:=by kernel_rfl):SX P Q s:=by
 obtain⟨x,e,h⟩:=rZ h
 exact wO E n _ (.dN (cells x)) d (aep e h1 h2 (c.eq x) (c.len x)) (q x e h)
variable {g : Nat} {A : List AV}
theorem yC (E:cU T P)(n:Nat){F:Option β}{V:β→AV}{f:β→Option R}{r:R}(hf:∀ v,F=some v→∀ S,fU P g A S fun c d=>c=.ret (V v)∧d=S)(h:(F>>=f)=some r)(q:∀ v,f v=some r→SX P Q (ak (V v) none (ab T P n s)))(j:I7 T P (ab T P n s)=some (g,A):=by kernel_rfl):SX P Q s:=by
 obtain⟨v,e,h⟩:=rZ h
 grind[Ft]
theorem aul (E:cU T P)(n:Nat){F:Option Bool}{a b:Option R}{r:R}(hf:∀ v,F=some v→∀ S,fU P g A S fun c d=>c=.ret (.sc (.bool v))∧d=S)(h:(F>>=fun v=>if v then a else b)=some r)(j:a=some r→SX P Q (ak (.sc (.bool true)) none (ab T P n s)))(l:b=some r→SX P Q (ak (.sc (.bool false)) none (ab T P n s)))(f:I7 T P (ab T P n s)=some (g,A):=by kernel_rfl):SX P Q s:=by
 obtain⟨v,e,h⟩:=rZ h
 refine Ft E n g A (.sc (.bool v)) f (hf v e) ?_
 grind
variable {w : AV}
theorem yR (E:cU T P)(n:Nat)(c:wN (ab T P n s)=some w:=by kernel_rfl)(d:aV w=true:=by exact pv):SX P (RQ w) s:=UG E n c d
variable {s' : St}
theorem yK (E:cU T P)(n:Nat)(c:List (List Nat))(ids:List Nat)(q:SX P (RQ v) s')(d:aV v=true:=by exact pv)(e:lC (ab T P n s)=true:=by kernel_rfl)(h:qT c ids (ab T P n s)=s' := by kernel_rfl):SX P (RQ v) s:=
 Il E (Ik d) n c ids e h q
theorem yF (E:cU T P){f:Nat}{args:List AV}(h:SX P (RQ w) (St.start T f args ag.empty))(ha:cF args=true:=by exact pl)(c:aV w=true:=by exact pv)(S:ag):fU P f args S fun r d=>r=.ret w∧d=S:=
 EF E ha c h S
def aj1 (S:ag)(nx:Nat)(ids:List Nat)(os:List aL):Prop:=S.nx=nx∧Nat.ble S.lim S.nx=true∧ids.Nodup∧w8 S ids os
theorem L7 {S:ag}:∀ {ids:List Nat} {os:List aL},ids.map S.get=os.map some→ids.all (Nat.ble S.lim)=true→w8 S ids os
 | [],[],_,_=>trivial
 | a::r,o::l,h,k=>by
   simp only[dF,List.cons.injEq] at h
   simp only[mI,aS] at k
   exact⟨⟨h.1,k.1⟩,L7 h.2 k.2⟩
 | [],_::_,h,_=>by simp at h
 | _::_,[],h,_=>by simp at h
variable {S : ag}
theorem wK {nx:Nat}{ids:List Nat}{os:List aL}(h1:S.nx=nx:=by kernel_rfl)(h2:Nat.ble S.lim S.nx=true:=by kernel_rfl)(h3:ids.Nodup:=by decide)(h4:ids.map S.get=os.map some:=by kernel_rfl)(c:ids.all (Nat.ble S.lim)=true:=by kernel_rfl):aj1 S nx ids os:=
 ⟨h1,h2,h3,L7 h4 c⟩
theorem yG (E:cU T P)(n:Nat){r:ag→ag}(d:fU P g A (NZ (ab T P n s)) fun x c=>x=.ret v∧c=r (NZ (ab T P n s)))(q:SX P Q (EV v r (ab T P n s)))(h:ZT T P (ab T P n s)=some (g,A):=by kernel_rfl):SX P Q s:=
 YD E n g A v r h d q
theorem ZX (E:cU T P)(n:Nat){r:ag→ag}(d:fU P g A (Rc (ab T P n s)) fun x c=>x=.ret v∧c=r (Rc (ab T P n s)))(q:SX P Q (Ts v r (ab T P n s)))(h:ZU T P (ab T P n s)=some (g,A):=by kernel_rfl):SX P Q s:=
 VP E n g A v r h d q
variable {kp : List Nat} {o o' : aL}
theorem akH (h:tT S kp o o' := by
 repeat' first | exact tT.df | exact vq.nil | exact Zk.nil | refine vq.cons ?_ ?_ | refine Zk.cons ?_ ?_ | exact lJ.Io rfl | exact lJ.C3 rfl | exact lJ.Ip rfl | exact lJ.ZB rfl rfl | (refine lJ.ZB rfl ?_;first | (simp<;>fail) | omega | (simp;omega)) | (refine lJ.pure ?_;simp[aV,cF,dy,ct,-List.map_append,-List.map_drop,-List.map_take,-List.map_set,-List.map_replicate]<;>fail) | refine tT.WO (fun _=>ct (by simp) _) ?_ | (refine tT.alO ?_;simp[aV,cF,dy,ct,-List.map_append,-List.map_drop,-List.map_take,-List.map_set,-List.map_replicate]<;>fail) | refine tT.ags ?_ | refine lJ.aai ?_ | refine lJ.auf ?_ ?_ | refine YF (Zk.spec ?_) (by kernel_rfl) | refine Po ?_ | refine tT.aui (by simp) (fun _=>ct (by simp) _) rfl ?_ | exact tT.asM rfl | (refine tT.asM (IM (fun _=>?_) (fun _=>?_) _)<;>simp[aV,cF,dy,ct,-List.map_append,-List.map_drop,-List.map_take,-List.map_set,-List.map_replicate]<;>fail)):tT S kp o o' := h
variable {i : Nat}
theorem us {r:List (Option aL)}(t:kq S kp (i+1) r)(e:S.get i=some o:=by kernel_rfl)(f:tT S kp o o:=by exact akH):kq S kp i (some o::r):=F7 e f t
theorem uo {r:List (Option aL)}(o:aL)(t:kq S kp (i+1) r)(e:S.get i=some o:=by kernel_rfl)(f:tT S kp o o' := by exact akH):kq S kp i (some o' :: r):=F7 e f t
theorem uT {r:List (Option aL)}(h:kq S kp i r:=by repeat first | exact iy | refine us ?_):kq S kp i r:=h
theorem ua {id:Nat}{l:List Nat}{r:List aL}(o:aL)(t:oZ S kp l r)(e:S.get id=some o:=by kernel_rfl)(f:tT S kp o o' := by exact akH):oZ S kp (id::l) (o' :: r):=Pn e f t
variable {k : Nat} {v' : AV} {jr : List (Option aL)} {add : List aL}
theorem asP (E:cU T P)(n:Nat)(v:AV)(kp:List Nat)(hf:lJ (BL (ab T P n s)) kp v v')(hu:kq (BL (ab T P n s)) kp 0 jr)(ha:oZ (BL (ab T P n s)) kp (kp.drop k) add)(h:wN (ab T P n s)=some v:=by kernel_rfl)(c:zf k add.length kp=true:=by kernel_rfl):SX P (RG k v' jr add) s:=aet E n kp h c hf hu ha
theorem aum (E:cU T P)(n:Nat)(v:AV)(kp:List Nat)(hf:lJ (BL (ab T P n s)) kp v v')(hu:kq (BL (ab T P n s)) kp 0 jr)(ha:oZ (BL (ab T P n s)) kp (kp.drop k) add)(h:W4 (ab T P n s)=some v:=by kernel_rfl)(c:zf k add.length kp=true:=by kernel_rfl):SX P (Zj false k v' jr add) s:=aeu E n kp h c hf hu ha
theorem aun (E:cU T P)(n:Nat){r:ag→ag}(d:fU P g A (jY (ab T P n s)) fun x c=>x=Ra false v∧c=r (jY (ab T P n s)))(q:SX P Q (W5 v r (ab T P n s)))(h:I7 T P (ab T P n s)=some (g,A):=by kernel_rfl)(e:C2 (ab T P n s)=true:=by kernel_rfl):SX P Q s:=YE E n g A v r h e d q
theorem auo (E:cU T P)(n:Nat)(bs:List Nat)(v:AV)(kp:List Nat)(hf:lJ (jY (ab T P n s)) kp v v')(hu:kq (jY (ab T P n s)) kp 0 jr)(ha:oZ (jY (ab T P n s)) kp (kp.drop k) add)(c:G8 (ab T P n s)=some (th P (ae9 (ab T P n s)) bs (RG k v' jr add)):=by kernel_rfl)(d:aj0 (ab T P n s)=[.uC bs]:=by kernel_rfl)(e:Qn (ab T P n s)=true:=by kernel_rfl)(h:aaj P (ab T P n s)=some v:=by kernel_rfl)(f:zf k add.length kp=true:=by kernel_rfl):SX P (RG k v' jr add) s:=by grind[YK]
variable {a : Nat}
theorem afB (E:cU T P)(d:vk a Q)(n:Nat)(c:List (List Nat))(ids:List Nat)(q:SX P Q s')(e:lC (ab T P n s)=true:=by kernel_rfl)(h:qT c ids (ab T P n s)=s' := by kernel_rfl):SX P Q s:=
 Il E d n c ids e h q
theorem aup (E:cU T P)(d:vk a Q)(n:Nat)(c:List (List Nat))(ids:List Nat)(bs:List Nat)(q:SX P Q s')(e:tr (ab T P n s)=true:=by kernel_rfl)(hb:DL (ab T P n s)=some (th P (Iq (ab T P n s)) bs Q):=by kernel_rfl)(h:qT c ids (ab T P n s)=s' := by kernel_rfl):SX P Q s:=aey E d n c ids bs e hb h q
theorem asQ (E:cU T P)(j:vk a Q)(n:Nat)(f:List (List Nat))(ids:List Nat)(d:List (Nat×Nat))(N nx:Nat){c:St}{ls:List (List (Nat×AV))}{l:List (Nat×aL)}(e:List (List (Nat×AV)))(l2:List (Nat×aL))(m:SX P Q (jN c ls (oX N l)))(q:lC (ab T P n s)=true:=by kernel_rfl)(h:qT f ids (ab T P n s)=jN c e (oX nx l2):=by kernel_rfl)(r:(wW d N nx [] []&&d.all (fun p=>Nat.ble a p.1)&&Nat.ble a N)=true:=by kernel_rfl)(t:yV (kG d N nx) c=true:=by kernel_rfl)(u:Nat.beq ls.length (wM c)=true:=by kernel_rfl)(y:mJ l2=true:=by kernel_rfl)(hs:e=ls.map (jt (kG d N nx)):=by simp[jt,AV.aY,eB,mT,aV,ct,ED,AL,-List.cons_append,-List.nil_append,-List.singleton_append,-List.map_append,-List.map_drop,-List.map_take,-List.map_set,-List.map_replicate]<;>omega)(z:l2=vp (kG d N nx) l:=by simp[vp,sH,vD,sJ,sU,sY,s5,py,px,EH,QI,sZ,sD,lX,jt,AV.aY,eB,mT,aV,ct,ED,AL,az,gv,encS,-List.cons_append,-List.nil_append,-List.singleton_append,-List.map_append,-List.map_drop,-List.map_take,-List.map_set,-List.map_replicate]<;>omega):SX P Q s:=
 by grind[Ov]
end
end Go.Eng
namespace Go.Eng
def SY (_:FT)(P:Program){R:Type}(Q:R→gQ→ag→Prop)(s:St)(e:Option R):Prop:=∀ r,e=some r→SX P (Q r) s
class EK (P : Program) (T : outParam FT) : Prop where
 ok : cU T P
variable {α : Type}
noncomputable def ZY (a b:α):Option α:=open Classical in if a=b then some a else none
theorem L8 {a b r:α}(h:ZY a b=some r):b=r∧a=r:=by
 unfold ZY at h
 grind
theorem asR (f:Func){a b:St}(h1 : @St.rec (fun _=>Option Func) (fun fn F S k=>some fn) (fun _ _=>none) (fun _ _=>none) (fun _ _ _=>none) (fun _=>none) a=some f:=by kernel_rfl)(h2 : @St.rec (fun _=>Option Func) (fun fn F S k=>some fn) (fun _ _=>none) (fun _ _=>none) (fun _ _ _=>none) (fun _=>none) b=some f:=by kernel_rfl)(h3 : @St.rec (fun _=>Option ae) (fun fn F S k=>some F) (fun _ _=>none) (fun _ _=>none) (fun _ _ _=>none) (fun _=>none) a=@St.rec (fun _=>Option ae) (fun fn F S k=>some F) (fun _ _=>none) (fun _ _=>none) (fun _ _ _=>none) (fun _=>none) b:=by kernel_rfl)(h4 : @St.rec (fun _=>Option ag) (fun fn F S k=>some S) (fun _ _=>none) (fun _ _=>none) (fun _ _ _=>none) (fun _=>none) a=@St.rec (fun _=>Option ag) (fun fn F S k=>some S) (fun _ _=>none) (fun _ _=>none) (fun _ _ _=>none) (fun _=>none) b:=by kernel_rfl)
  (d : @St.rec (fun _=>Option cG) (fun fn F S k=>some k) (fun _ _=>none) (fun _ _=>none) (fun _ _ _=>none) (fun _=>none) a=@St.rec (fun _=>Option cG) (fun fn F S k=>some k) (fun _ _=>none) (fun _ _=>none) (fun _ _ _=>none) (fun _=>none) b:=by kernel_rfl):a=b:=by
 cases a<;>cases b<;>simp_all
class Ec (P : Program) (α : Type) where
 enc : α → AV
 cells : α → List AV
 t : Nat
 el : Nat
 m : Nat
 cs : CS enc cells m
 ce : ∀ x, (enc x).cells.all eD = true
 h1 : P.underlying t = some (.slice el)
 h2 : te P el = some m
 h3 : Lj P t el m = true
 h4 : Lk P t = true
 pu : ∀ x, aV (enc x) = true
abbrev FD (P:Program)(g:Nat)(A:List AV)(v:AV):Prop:=∀ S,fU P g A S fun a d=>a=.ret v∧d=S
variable {β : Type}
abbrev LF (P:Program)(F:Option β)(g:Nat)(A:List AV)(V:β→AV):Prop:=∀ v,F=some v→FD P g A (V v)
abbrev LH (P:Program)(F:Option β)(V:β→AV)(s:St):Prop:=∀ r,F=some r→SX P (RQ (V r)) s
abbrev NM := Nat→Nat
abbrev TC := List AV×List aL
abbrev TB := AV×List (Option aL)×List aL
abbrev TP := Bool×AV×List (Option aL)×List aL
abbrev TL := List (List (Nat×AV))×List (Nat×aL)
@[simp] def sm (l:List aL):List (Option aL):=l.map some
instance : Std.ToStream St St := ⟨id⟩
instance : Std.ToStream (NM → TC) (NM → TC) := ⟨id⟩
instance : Std.ToStream (NM → TB) (NM → TB) := ⟨id⟩
instance : Std.ToStream (NM → TP) (NM → TP) := ⟨id⟩
instance {α β γ : Type} [Inhabited α] [Std.ToStream β γ] : Std.ToStream (α → β) γ := ⟨fun f => Std.ToStream.toStream (f default)⟩
abbrev dz [Std.ToStream α β] (x:α):β:=Std.ToStream.toStream x
noncomputable def fV (c:St)(N:Nat)(L:NM→TL):St:=jN c (L id).1 (oX N (L id).2)
def Ad (k:Nat)(B:NM→TB):gQ→ag→Prop:=RG k (B id).1 (B id).2.1 (B id).2.2
noncomputable def BT (k:Nat)(B:NM→TB)(ids:List Nat)(nx:Nat)(S:ag):ag:=BR (rf S (ids.zip ((B (tg (ids.take k) nx)).2.1++List.replicate (ids.length-k) none))) (B (tg (ids.take k) nx)).2.2
def alR (P:Program)(f k:Nat)(C:NM→TC)(B:NM→TB):Prop:=∀(S:ag) (nx:Nat) (ids:List Nat),aj1 S nx ids (C (tg ids nx)).2 →
 fU P f (C (tg ids nx)).1 S fun a d=>a=.ret (B (tg (ids.take k) nx)).1∧d=BT k B ids nx S
def Ae (k:Nat)(B:NM→TP):gQ→ag→Prop:=Zj (B id).1 k (B id).2.1 (B id).2.2.1 (B id).2.2.2
noncomputable def W7 (k:Nat)(B:NM→TP)(ids:List Nat)(nx:Nat)(S:ag):ag:=BR (rf S (ids.zip ((B (tg (ids.take k) nx)).2.2.1++List.replicate (ids.length-k) none))) (B (tg (ids.take k) nx)).2.2.2
def agw (P:Program)(f k:Nat)(C:NM→TC)(B:NM→TP):Prop:=∀(S:ag) (nx:Nat) (ids:List Nat),aj1 S nx ids (C (tg ids nx)).2 →
 fU P f (C (tg ids nx)).1 S fun a d=>a=Ra (B (tg (ids.take k) nx)).1 (B (tg (ids.take k) nx)).2.1∧d=W7 k B ids nx S
abbrev LJ (P:Program)(F:Option β)(k:Nat)(B:β→NM→TB)(s:St):Prop:=∀ r,F=some r→SX P (Ad k (B r)) s
abbrev LP (P:Program)(F:Option β)(k:Nat)(B:β→NM→TP)(s:St):Prop:=∀ r,F=some r→SX P (Ae k (B r)) s
abbrev LG (P:Program)(F:Option β)(f k:Nat)(C:NM→TC)(B:β→NM→TB):Prop:=∀ r,F=some r→alR P f k C (B r)
abbrev afb (P:Program)(F:Option β)(f k:Nat)(C:NM→TC)(B:β→NM→TP):Prop:=∀ r,F=some r→agw P f k C (B r)
noncomputable def alS : Bool→AV→(ag→ag)→St→St
 | true,v,r,s=>EV v r s
 | false,v,r,s=>W5 v r s
variable {k : Nat}
theorem qk {B:NM→TB}(h:(B id).2.1.length=k:=by first | rfl | (simp;done) | (simp;split<;>rfl)):vk k (Ad k B):=ZC h
theorem qp {B:NM→TP}(h:(B id).2.2.1.length=k:=by first | rfl | (simp;done) | (simp;split<;>rfl)):vk k (Ae k B):=ZC h
theorem rq {v:AV}(h:aV v=true:=by exact pv):vk 0 (RQ v):=Ik h
section
variable {T : FT} {P : Program} {s : St} {α β R : Type} {Q : R → gQ → ag → Prop} [K : EK P T]
theorem s0 : SY T P Q s (none:Option R):=fun _ h=>by cases h
variable {s' : St}
theorem sT {e:Option R}(f:∀ {Q:gQ→ag→Prop},SX P Q s' → SX P Q s)(q:SY T P Q s' e):SY T P Q s e:=fun r h=>f (q r h)
theorem sE {x:R}(f:SX P (Q x) s):SY T P Q s (some x):=fun _ h=>by cases h;exact f
theorem sI (n:Nat){k:IntKind}{x:Int}{f:Option R}(q:SY T P Q (ak (.sc (.int k x)) none (ab T P n s)) f)(a:NR P (ab T P n s)=some (.sc (.int k (k.wrap x))):=by kernel_rfl) :
 SY T P Q s (if cw k x then f else none):=fun _ h=>yI K.ok n h (fun _ h=>q _ h) a
variable {b : Bool}
theorem sB (n:Nat){t f:Option R}(a:SY T P Q (ak (.sc (.bool true)) none (ab T P n s)) t)(d:SY T P Q (ak (.sc (.bool false)) none (ab T P n s)) f)(e:NR P (ab T P n s)=some (.sc (.bool b)):=by kernel_rfl):SY T P Q s (if b then t else f):=fun _ h=>yB K.ok n h (fun _ h=>a _ h) (fun _ h=>d _ h) e
theorem WI (n:Nat){t f:Option R}(a:SY T P Q (eC (fun S=>.val (.sc (.bool true)) S) (ab T P n s)) t)(d:SY T P Q (eC (fun S=>.val (.sc (.bool false)) S) (ab T P n s)) f)(e:yq P (ab T P n s)=some (.val (.sc (.bool b)) (e8 (ab T P n s))):=by kernel_rfl)(j:j3 (.val (.sc (.bool b)) (e8 (ab T P n s))) (ab T P n s)=true:=by kernel_rfl):SY T P Q s (if b then t else f):=fun _ h=>auk K.ok n h (fun _ h=>a _ h) (fun _ h=>d _ h) e j
variable {i : Int}
theorem sX [C:Ec P α] (n:Nat) {l:List α} {f:α→Option R} (q:∀ x,SY T P Q (ak (.dN (C.cells x)) none (ab T P n s)) (f x)) (a:NR P (ab T P n s)=dP P ag.empty C.t (.lit (l.map C.enc)) (.sc (.int .i64 i)):=by kernel_rfl):SY T P Q s (bP l i>>=f):=
 fun _ h=>yX K.ok n C.t C.el C.cs h (fun x _ h=>q x _ h) a C.h1 C.h2
variable {g : Nat} {A : List AV}
theorem sC (n:Nat){F:Option β}{V:β→AV}{f:β→Option R}(hf:LF P F g A V)(q:∀ v,SY T P Q (ak (V v) none (ab T P n s)) (f v))(a:I7 T P (ab T P n s)=some (g,A):=by kernel_rfl):SY T P Q s (F>>=f):=fun _ h=>yC K.ok n hf h (fun v h=>q v _ h) a
theorem fH (n:Nat){F:Option Bool}{a b:Option R}(hf:LF P F g A fun v=>.sc (.bool v))(d:SY T P Q (ak (.sc (.bool true)) none (ab T P n s)) a)(e:SY T P Q (ak (.sc (.bool false)) none (ab T P n s)) b)(f:I7 T P (ab T P n s)=some (g,A):=by kernel_rfl) :
 SY T P Q s (F>>=fun v=>if v then a else b):=fun _ h=>aul K.ok n hf h (d _) (e _) f
theorem sL [C:Ec P α] (n:Nat) (l:List α) {e:Option R} (q:SY T P Q (ak (.sc (.int .i64 l.length)) none (ab T P n s)) e)
 (a:NR P (ab T P n s)=some (.sc (.int .i64 ((l.map C.enc).length:Nat))):=by kernel_rfl):SY T P Q s e:=fun _ h=>wO K.ok n _ _ a (JM C.enc l) (q _ h)
theorem sR (n:Nat){V:R→AV}{x:R}(a:wN (ab T P n s)=some (V x):=by kernel_rfl)(d:aV (V x)=true:=by exact pv):SY T P (fun r=>RQ (V r)) s (some x):=
 fun _ h=>by cases h;exact yR K.ok n a d
theorem G4 [C:Ec P α] (n d:Nat) {l:List α} (a:wN (ab T P n s)=some (.ai d 0 l.length):=by kernel_rfl) (e:(BL (ab T P n s)).get d=some (.arr C.m (l.map C.enc)):=by kernel_rfl) :
  SY T P (fun r:List α=>RQ (.lit (r.map C.enc))) s (some l):=
 sE (Q:=fun r:List α=>RQ (.lit (r.map C.enc))) (bN K.ok n a (Fz.lN e (by simp) (dy C.pu _)))
theorem Ta (n:Nat){enc:α→AV}(a:wN (ab T P n s)=some .an:=by kernel_rfl):SY T P (fun r:List α=>RQ (.lit (r.map enc))) s (some ([]:List α)):=
 sE (Q:=fun r:List α=>RQ (.lit (r.map enc))) (bN K.ok n a .an)
theorem sK (n:Nat)(a:List (List Nat))(ids:List Nat){V:R→AV}{e:Option R}(q:LH P e V s')(d:∀ r,aV (V r)=true:=by intro r;exact pv)(f:lC (ab T P n s)=true:=by kernel_rfl)(h:qT a ids (ab T P n s)=s' := by kernel_rfl) :
 SY T P (fun r=>RQ (V r)) s e:=fun _ j=>yK K.ok n a ids (q _ j) (d _) f h
theorem wa (n:Nat)(a:List (List Nat))(ids:List Nat){B:R→NM→TB}{e:Option R}(q:LJ P e k B s')(d:∀ r,vk k (Ad k (B r)):=by intro r;exact qk)(f:lC (ab T P n s)=true:=by kernel_rfl)(h:qT a ids (ab T P n s)=s' := by kernel_rfl) :
 SY T P (fun r=>Ad k (B r)) s e:=fun _ j=>afB K.ok (d _) n a ids (q _ j) f h
theorem akI (n:Nat)(a:List (List Nat))(ids:List Nat){B:R→NM→TP}{e:Option R}(q:LP P e k B s')(d:∀ r,vk k (Ae k (B r)):=by intro r;exact qp)(f:lC (ab T P n s)=true:=by kernel_rfl)(h:qT a ids (ab T P n s)=s' := by kernel_rfl) :
 SY T P (fun r=>Ae k (B r)) s e:=fun _ j=>afB K.ok (d _) n a ids (q _ j) f h
variable {N : Nat} {c : St} {L : NM → TL}
theorem akJ {T:FT}{P:Program}{Q:gQ→ag→Prop}{s:St}(E:cU T P){a:Nat}(j:vk a Q)(n:Nat)(e:List (List Nat))(ids:List Nat)(d:List (Nat×Nat))(nx:Nat)(l:SX P Q (fV c N L))(m:lC (ab T P n s)=true)(h:qT e ids (ab T P n s)=jN c (L (kG d N nx)).1 (oX nx (L (kG d N nx)).2))(o:(wW d N nx [] []&&d.all (fun p=>Nat.ble a p.1)&&Nat.ble a N)=true)(q:yV (kG d N nx) c=true)(r:Nat.beq (L id).1.length (wM c)=true)(t:mJ (L (kG d N nx)).2=true)(f:∀ σ:NM,(L σ).1=(L id).1.map (jt σ)∧(L σ).2=vp σ (L id).2):SX P Q s:=
 Ov E j n e ids d N nx m h o q r t (f _).1 (f _).2 l
section
variable {T : FT} {P : Program} {Q : gQ → ag → Prop} {s : St}
theorem auq (E:cU T P){a:Nat}(j:vk a Q)(n:Nat)(f:List (List Nat))(ids:List Nat)(d:List (Nat×Nat))(nx:Nat)(e:List (List (Nat×AV)))(l2:List (Nat×aL))(l:SX P Q (fV c N L))(m:lC (ab T P n s)=true:=by kernel_rfl)(h:qT f ids (ab T P n s)=jN c e (oX nx l2):=by kernel_rfl)(o:(wW d N nx [] []&&d.all (fun p=>Nat.ble a p.1)&&Nat.ble a N)=true:=by kernel_rfl)(q:yV (kG d N nx) c=true:=by kernel_rfl)(r:Nat.beq (L id).1.length (wM c)=true:=by kernel_rfl)(t:mJ l2=true:=by kernel_rfl)(hs:e=(L id).1.map (jt (kG d N nx)):=by simp[jt,AV.aY,eB,mT,aV,ct,ED,AL,-List.cons_append,-List.nil_append,-List.singleton_append,-List.map_append,-List.map_drop,-List.map_take,-List.map_set,-List.map_replicate]<;>omega)(u:l2=vp (kG d N nx) (L id).2:=by simp[vp,sH,vD,sJ,sU,sY,s5,py,px,EH,sZ,sD,lX,jt,AV.aY,eB,mT,aV,ct,ED,AL,az,gv,encS,-List.cons_append,-List.nil_append,-List.singleton_append,-List.map_append,-List.map_drop,-List.map_take,-List.map_set,-List.map_replicate]<;>omega):SX P Q s:=
 Ov E j n f ids d N nx m h o q r t hs u l
theorem aur (E:cU T P){a:Nat}(l:vk a Q)(n:Nat)(f:List (List Nat))(ids:List Nat)(d:List (Nat×Nat))(nx:Nat)(bs:List Nat)(m:SX P Q (fV c N L))(o:tr (ab T P n s)=true:=by kernel_rfl)(hb:DL (ab T P n s)=some (th P (Iq (ab T P n s)) bs Q):=by kernel_rfl)(e:DL c=some (th P (Iq (ab T P n s)) bs Q):=by kernel_rfl)(h:qT f ids (ab T P n s)=jN c (L (kG d N nx)).1 (oX nx (L (kG d N nx)).2):=by kernel_rfl)(q:(wW d N nx [] []&&d.all (fun p=>Nat.ble a p.1)&&Nat.ble a N)=true:=by kernel_rfl)(r:Fw (kG d N nx) c=true:=by kernel_rfl)(t:Nat.beq (L id).1.length (wM c)=true:=by kernel_rfl)(u:mJ (L (kG d N nx)).2=true:=by kernel_rfl)(j:∀ σ:NM,(L σ).1=(L id).1.map (jt σ)∧(L σ).2=vp σ (L id).2:=by
  intro σ;simp[vp,sH,vD,sJ,sU,sY,s5,py,px,EH,sZ,sD,lX,jt,AV.aY,eB,mT,aV,ct,az,gv,encS,-List.map_append,-List.map_drop,-List.map_take,-List.map_set,-List.map_replicate]):SX P Q s:=
 YJ E l n f ids d N nx bs o hb e h q r t u (j _).1 (j _).2 m
end
theorem akK (h:∀ σ:NM,(L σ).1=(L id).1.map (jt σ)∧(L σ).2=vp σ (L id).2:=by
  intro σ;simp[vp,QI,sH,vD,sJ,sU,sY,s5,py,px,EH,sZ,sD,lX,jt,AV.aY,eB,mT,aV,ct,az,gv,encS,-List.map_append,-List.map_drop,-List.map_take,-List.map_set,-List.map_replicate]) :
 ∀ σ:NM,(L σ).1=(L id).1.map (jt σ)∧(L σ).2=vp σ (L id).2:=h
theorem sM (n:Nat)(d:List (List Nat))(ids:List Nat)(a:List (Nat×Nat))(nx:Nat){V:R→AV}{e:Option R}(q:LH P e V (fV c N L))(f:∀ r,aV (V r)=true:=by intro r;exact pv)(j:lC (ab T P n s)=true:=by kernel_rfl)(h:qT d ids (ab T P n s)=jN c (L (kG a N nx)).1 (oX nx (L (kG a N nx)).2):=by kernel_rfl)(l:(wW a N nx [] []&&a.all (fun p=>Nat.ble 0 p.1)&&Nat.ble 0 N)=true:=by kernel_rfl)(m:yV (kG a N nx) c=true:=by kernel_rfl)(o:Nat.beq (L id).1.length (wM c)=true:=by kernel_rfl)(t:mJ (L (kG a N nx)).2=true:=by kernel_rfl)(u:∀ σ:NM,(L σ).1=(L id).1.map (jt σ)∧(L σ).2=vp σ (L id).2:=by exact akK):SY T P (fun r=>RQ (V r)) s e:=fun _ v=>akJ K.ok (Ik (f _)) n d ids a nx (q _ v) j h l m o t u
theorem I9 (n:Nat)(d:List (List Nat))(ids:List Nat)(a:List (Nat×Nat))(nx:Nat){B:R→NM→TB}{e:Option R}(q:LJ P e k B (fV c N L))(f:∀ r,vk k (Ad k (B r)):=by intro r;exact qk)(j:lC (ab T P n s)=true:=by kernel_rfl)(h:qT d ids (ab T P n s)=jN c (L (kG a N nx)).1 (oX nx (L (kG a N nx)).2):=by kernel_rfl)(l:(wW a N nx [] []&&a.all (fun p=>Nat.ble k p.1)&&Nat.ble k N)=true:=by kernel_rfl)(m:yV (kG a N nx) c=true:=by kernel_rfl)(o:Nat.beq (L id).1.length (wM c)=true:=by kernel_rfl)(t:mJ (L (kG a N nx)).2=true:=by kernel_rfl)(u:∀ σ:NM,(L σ).1=(L id).1.map (jt σ)∧(L σ).2=vp σ (L id).2:=by exact akK):SY T P (fun r=>Ad k (B r)) s e:=fun _ v=>akJ K.ok (f _) n d ids a nx (q _ v) j h l m o t u
theorem akL (n:Nat)(d:List (List Nat))(ids:List Nat)(a:List (Nat×Nat))(nx:Nat){B:R→NM→TP}{e:Option R}(q:LP P e k B (fV c N L))(f:∀ r,vk k (Ae k (B r)):=by intro r;exact qp)(j:lC (ab T P n s)=true:=by kernel_rfl)(h:qT d ids (ab T P n s)=jN c (L (kG a N nx)).1 (oX nx (L (kG a N nx)).2):=by kernel_rfl)(l:(wW a N nx [] []&&a.all (fun p=>Nat.ble k p.1)&&Nat.ble k N)=true:=by kernel_rfl)(m:yV (kG a N nx) c=true:=by kernel_rfl)(o:Nat.beq (L id).1.length (wM c)=true:=by kernel_rfl)(t:mJ (L (kG a N nx)).2=true:=by kernel_rfl)(u:∀ σ:NM,(L σ).1=(L id).1.map (jt σ)∧(L σ).2=vp σ (L id).2:=by exact akK):SY T P (fun r=>Ae k (B r)) s e:=fun _ v=>akJ K.ok (f _) n d ids a nx (q _ v) j h l m o t u
theorem sF {f:Nat}{args:List AV}{V:R→AV}{e:Option R}(h:SY T P (fun r=>RQ (V r)) (St.start T f args ag.empty) e)(ha:cF args=true:=by exact pl)(a:∀ r,aV (V r)=true:=by intro r;exact pv):LF P e f args V:=
 fun r d S=>yF K.ok (h _ d) ha (a r) S
theorem sG {c:Prop} [Decidable c] {f:Option R} (q:c→SY T P Q s f):SY T P Q s (if decide c then f else none):=
 fun _ h=>q (of_decide_eq_true (WE h).1) _ (WE h).2
theorem sS {t f:Option R}(a:b=true→SY T P Q s t)(d:b=false→SY T P Q s f):SY T P Q s (if b then t else f):=by
 grind
theorem DC (n t el:Nat){enc:α→AV}{cells:α→List AV}{m:Nat}(a:CS enc cells m){l:List α}{f:α→Option R}(q:∀ x,bP l i=some x→SY T P Q (ak (.dN (cells x)) none (ab T P n s)) (f x))(d:NR P (ab T P n s)=dP P ag.empty t (.lit (l.map enc)) (.sc (.int .i64 i)):=by kernel_rfl)(h1:P.underlying t=some (.slice el):=by kernel_rfl)(h2:te P el=some m:=by kernel_rfl):SY T P Q s (bP l i>>=f):=
 fun _ h=>yX K.ok n t el a h (fun x e h=>q x e _ h) d h1 h2
theorem aus (n t:Nat){a:Int}{F:Int→Option R}(q:∀ k:Nat,k<21→SY T P Q (W6 t (.sc (.int .i64 k)) (ab T P n s)) (F k))(h:Oz t (ab T P n s)=some (.sc (.int .i64 a)):=by kernel_rfl):SY T P Q s (if decide (0≤a∧a≤20) then F a else none):=
 sG fun c=>by
  have e:a=((a.toNat:Nat):Int):=by omega
  rw[e]
  exact sT (aeD K.ok n t e h) (q a.toNat (by omega))
theorem aj2 {s1 s2:St}{t f:Option R}(g:∀ {Q:gQ→ag→Prop},(b=true→SX P Q s1)→(b=false→SX P Q s2)→SX P Q s)(a:SY T P Q s1 t)(d:SY T P Q s2 f):SY T P Q s (if b then t else f):=
 fun r h=>g (fun c=>a r (Zi c h)) (fun c=>d r (ZS c h))
theorem akM (n id m since:Nat){l:List (Int×Int)}{sn:List Nat}{e:Option R}{F:Nat→Int×Int→Option R}(a:SY T P Q (eC (fun S=>.val (.bO [.sc (.bool false)]) S) (ab T P n s)) e)
  (d:∀ i x,l[i]? = some x→SY T P Q (eC (fun S=>.val (.bO [.sc (.bool true),az .i64 x.1,az .i64 x.2]) (S.set id (.mi m since (sn++[i])))) (ab T P n s)) (F i x))
  (j:WH (ab T P n s)=some (.ptr id 0 0):=by kernel_rfl) (h1:(jY (ab T P n s)).get id=some (.mi m since sn):=by kernel_rfl) (h2:(jY (ab T P n s)).get m=some (.mp (l.map (cg (az .i64) (az .i64)))):=by kernel_rfl)
  (hs:since=l.length:=by simp) (o:Nat.ble (jY (ab T P n s)).lim id=true:=by kernel_rfl):SY T P Q s (BS l sn e F):=
 fun _ h=>aeE K.ok n (f:=az .i64) (g:=az .i64) h j h1 h2 hs o (fun h=>a _ h) fun i x p h=>d i x p _ h
theorem akN (n id m since:Nat)(sn:List Nat)(i:Nat){l:List (Int×Int)}{x:Int×Int}{e:Option R}(hx:l[i]? = some x)(q:SY T P Q (eC (fun S=>.val (.bO [az .i64 x.1,az .i64 x.2]) S) (ab T P n s)) e)
  (a:yq P (ab T P n s)=ZW (e8 (ab T P n s)) (.ptr id 0 0):=by kernel_rfl) (d:j3 (.val (.bO [az .i64 x.1,az .i64 x.2]) (e8 (ab T P n s))) (ab T P n s)=true:=by kernel_rfl)
  (h1:(e8 (ab T P n s)).get id=some (.mi m since (sn++[i])):=by kernel_rfl) (h2:(e8 (ab T P n s)).get m=some (.mp (l.map (cg (az .i64) (az .i64)))):=by kernel_rfl) (hs:since=l.length:=by simp):SY T P Q s e:=
 sT (bF K.ok n (fun S=>ZW S (.ptr id 0 0)) (fun S=>.val (.bO [az .i64 x.1,az .i64 x.2]) S) a d (Jz (f:=az .i64) (g:=az .i64) h1 h2 hs hx)) q
theorem aj3 {t f:Option R}(q:SY T P Q s t):SY T P Q s (if true then t else f):=by grind
theorem sf {t f:Option R}(q:SY T P Q s f):SY T P Q s (if false then t else f):=by grind
theorem N0 (n:Nat){a:ag→ag}{t f:Option R}(j:fU P g A (NZ (ab T P n s)) fun x d=>x=.ret (.sc (.bool b))∧d=a (NZ (ab T P n s)))(l:SY T P Q (EV (.sc (.bool true)) a (ab T P n s)) t)(m:SY T P Q (EV (.sc (.bool false)) a (ab T P n s)) f)(h:ZT T P (ab T P n s)=some (g,A):=by kernel_rfl):SY T P Q s (if b then t else f):=by
 cases b with
 | true=>exact fun _ e=>yG K.ok n j (l _ (by simpa using e)) h
 | false=>exact fun _ e=>yG K.ok n j (m _ (by simpa using e)) h
theorem akO (n t id:Nat){m:List (Int×Bool)}{x:Int}{a b:Option R}(h:SY T P Q (eC (fun S=>.val (.sc (.bool true)) S) (ab T P n s)) a)(j:SY T P Q (eC (fun S=>.val (.sc (.bool false)) S) (ab T P n s)) b)
  (f:yq P (ab T P n s)=Rb P (e8 (ab T P n s)) t (.cQ id) (.sc (.int .i64 x)) false:=by kernel_rfl) (l:j3 (.val (.sc (.bool true)) (e8 (ab T P n s))) (ab T P n s)=true:=by kernel_rfl) (d:j3 (.val (.sc (.bool false)) (e8 (ab T P n s))) (ab T P n s)=true:=by kernel_rfl)
  (o:C4 P t=some (.i64,gv false):=by kernel_rfl) (p:(e8 (ab T P n s)).get id=some (.mp (m.map (cg (az .i64) gv))):=by kernel_rfl):SY T P Q s (if(iO m x).getD false then a else b):=by
 have w:=Ow (x:=x) (g:=gv) (z0:=false) o p
 generalize (iO m x).getD false=v at w
 cases v with
 | true=>exact fun _ e=>bF K.ok n (fun S=>Rb P S t (.cQ id) (.sc (.int .i64 x)) false) _ f l w (h _ (by simpa using e))
 | false=>exact fun _ e=>bF K.ok n (fun S=>Rb P S t (.cQ id) (.sc (.int .i64 x)) false) _ f d w (j _ (by simpa using e))
theorem asS (n t id:Nat){m:List (ByteArray×Bool)}{x:ByteArray}{a b:Option R}(h:SY T P Q (eC (fun S=>.val (.sc (.bool true)) S) (ab T P n s)) a)(j:SY T P Q (eC (fun S=>.val (.sc (.bool false)) S) (ab T P n s)) b)
  (f:yq P (ab T P n s)=Rb P (e8 (ab T P n s)) t (.cQ id) (.sc (.string x)) false:=by kernel_rfl) (l:j3 (.val (.sc (.bool true)) (e8 (ab T P n s))) (ab T P n s)=true:=by kernel_rfl) (d:j3 (.val (.sc (.bool false)) (e8 (ab T P n s))) (ab T P n s)=true:=by kernel_rfl)
  (o:Ca P t=some (gv false):=by kernel_rfl) (p:(e8 (ab T P n s)).get id=some (.mp (m.map (cg encS gv))):=by kernel_rfl):SY T P Q s (if(tn m x).getD false then a else b):=by
 have w:=YL (x:=x) (g:=gv) (z0:=false) o p
 generalize (tn m x).getD false=v at w
 cases v with
 | true=>exact fun _ e=>bF K.ok n (fun S=>Rb P S t (.cQ id) (.sc (.string x)) false) _ f l w (h _ (by simpa using e))
 | false=>exact fun _ e=>bF K.ok n (fun S=>Rb P S t (.cQ id) (.sc (.string x)) false) _ f d w (j _ (by simpa using e))
theorem afc (n t id:Nat)(m:List (Int×Int))(x:Int){e:Option R}(q:SY T P Q (eC (fun S=>.val (.sc (.int .i64 ((iO m x).getD 0))) S) (ab T P n s)) e)
  (a:yq P (ab T P n s)=Rb P (e8 (ab T P n s)) t (.cQ id) (.sc (.int .i64 x)) false:=by kernel_rfl) (d:j3 (.val (.sc (.int .i64 ((iO m x).getD 0))) (e8 (ab T P n s))) (ab T P n s)=true:=by kernel_rfl)
  (f:C4 P t=some (.i64,az .i64 0):=by kernel_rfl) (h:(e8 (ab T P n s)).get id=some (.mp (m.map (cg (az .i64) (az .i64)))):=by kernel_rfl):SY T P Q s e:=
 sT (bF K.ok n (fun S=>Rb P S t (.cQ id) (.sc (.int .i64 x)) false) (fun S=>.val (.sc (.int .i64 ((iO m x).getD 0))) S) a d (Ow (x:=x) (g:=az .i64) (z0:=0) f h)) q
theorem afC (n t id:Nat)(m:List (Int×Bool))(x:Int)(y:Bool){e:Option R}(q:SY T P Q (eC (fun S=>.skip (S.set id (.mp ((ko m x y).map (cg (az .i64) gv))))) (ab T P n s)) e)
  (a:yq P (ab T P n s)=SS P (e8 (ab T P n s)) t (.cQ id) (.sc (.int .i64 x)) (.sc (.bool y)):=by kernel_rfl) (d:j3 (.skip ((e8 (ab T P n s)).set id (.mp ((ko m x y).map (cg (az .i64) gv))))) (ab T P n s)=true:=by kernel_rfl)
  (f:C4 P t=some (.i64,gv false):=by kernel_rfl) (h:(e8 (ab T P n s)).get id=some (.mp (m.map (cg (az .i64) gv))):=by kernel_rfl) (j:Nat.ble (e8 (ab T P n s)).lim id=true:=by kernel_rfl):SY T P Q s e:=
 sT (bF K.ok n (fun S=>SS P S t (.cQ id) (.sc (.int .i64 x)) (.sc (.bool y))) (fun S=>.skip (S.set id (.mp ((ko m x y).map (cg (az .i64) gv))))) a d (Jy (g:=gv) (y:=y) f h j)) q
theorem akP (n t id:Nat)(m:List (Int×Int))(x y:Int){e:Option R}(q:SY T P Q (eC (fun S=>.skip (S.set id (.mp ((ko m x y).map (cg (az .i64) (az .i64)))))) (ab T P n s)) e)
  (a:yq P (ab T P n s)=SS P (e8 (ab T P n s)) t (.cQ id) (.sc (.int .i64 x)) (.sc (.int .i64 y)):=by kernel_rfl) (d:j3 (.skip ((e8 (ab T P n s)).set id (.mp ((ko m x y).map (cg (az .i64) (az .i64)))))) (ab T P n s)=true:=by kernel_rfl)
  (f:C4 P t=some (.i64,az .i64 0):=by kernel_rfl) (h:(e8 (ab T P n s)).get id=some (.mp (m.map (cg (az .i64) (az .i64)))):=by kernel_rfl) (j:Nat.ble (e8 (ab T P n s)).lim id=true:=by kernel_rfl):SY T P Q s e:=
 sT (bF K.ok n (fun S=>SS P S t (.cQ id) (.sc (.int .i64 x)) (.sc (.int .i64 y))) (fun S=>.skip (S.set id (.mp ((ko m x y).map (cg (az .i64) (az .i64)))))) a d (Jy (g:=az .i64) (y:=y) f h j)) q
theorem aj4 (n t id:Nat)(m:List (ByteArray×Bool))(x:ByteArray)(y:Bool){e:Option R}(q:SY T P Q (eC (fun S=>.skip (S.set id (.mp ((r9 m x y).map (cg encS gv))))) (ab T P n s)) e)
  (a:yq P (ab T P n s)=SS P (e8 (ab T P n s)) t (.cQ id) (.sc (.string x)) (.sc (.bool y)):=by kernel_rfl) (d:j3 (.skip ((e8 (ab T P n s)).set id (.mp ((r9 m x y).map (cg encS gv))))) (ab T P n s)=true:=by kernel_rfl)
  (f:Ca P t=some (gv false):=by kernel_rfl) (h:(e8 (ab T P n s)).get id=some (.mp (m.map (cg encS gv))):=by kernel_rfl) (j:Nat.ble (e8 (ab T P n s)).lim id=true:=by kernel_rfl):SY T P Q s e:=
 sT (bF K.ok n (fun S=>SS P S t (.cQ id) (.sc (.string x)) (.sc (.bool y))) (fun S=>.skip (S.set id (.mp ((r9 m x y).map (cg encS gv))))) a d (YM (g:=gv) (y:=y) f h j)) q
theorem sO [C:Ec P α] (n:Nat) (l:List α) {a b:Option R} (d:SY T P Q (ak (.sc (.bool true)) none (ab T P n s)) a) (f:SY T P Q (ak (.sc (.bool false)) none (ab T P n s)) b)
   (h:aah P (ab T P n s)=some (l.map C.enc):=by kernel_rfl) (hf:Ql (ab T P n s)=true:=by kernel_rfl):SY T P Q s (b>>=fun z=>if l.isEmpty then(a>>=ZY z) else some z):=fun r e=>by
 obtain⟨z,hb,e⟩:=rZ e
 refine QE K.ok n _ h hf (fun c=>d _ ?_) (f _ ?_)
 · have c:l.isEmpty=true:=by simpa using c
   obtain⟨w,ha,e⟩:=rZ (Zi c e)
   rw[ha,(L8 e).1]
 · rw[hb]
   cases c:l.isEmpty with
   | true=>
     obtain⟨w,ha,e⟩:=rZ (Zi c e)
     rw[(L8 e).2]
   | false=>exact ZS c e
theorem sV {F:Option β}{f:β→Option R}(q:∀ v,F=some v→SY T P Q s (f v)):SY T P Q s (F>>=f):=
 fun _ h=>let ⟨v,e,h⟩:=rZ h;q v e _ h
variable {C : NM → TC}
theorem agx {T:FT}{P:Program}(E:cU T P)(m:Nat){f:Nat}{B:NM→TP}(h:SX P (Ae k B) (St.start T f (C id).1 (oX m (mR 0 (C id).2))))(hb:(∀ σ:NM,(B id).1=(B σ).1∧(B id).2.1.aY σ=(B σ).2.1∧(B id).2.2.1.map (Option.map (aL.aY σ))=(B σ).2.2.1∧(B id).2.2.2.map (aL.aY σ)=(B σ).2.2.2)∧(B id).2.2.1.length=k)(e:∀ σ:NM,eB σ (C id).1=(C σ).1∧(C id).2.map (aL.aY σ)=(C σ).2)(o:m=(C id).2.length)(j:Nat.ble k (C id).2.length=true):agw P f k C B:=by
 intro S nx ids p
 obtain⟨h1,h2,h3,h4⟩:=p
 obtain⟨d,q⟩:=hb
 subst h1
 subst o
 have n:ids.length=(C id).2.length:=by
  have r:∀ {ids:List Nat} {os:List aL},w8 S ids os→ids.length=os.length:=by
   intro ids
   induction ids with
   | nil=>intro os h;cases os with
     | nil=>rfl
     | cons=>simp[w8] at h
   | cons a l t=>intro os h;cases os with
     | nil=>simp[w8] at h
     | cons b m=>simp[t h.2]
  rw[r h4,←(e _).2,sq]
 have u:=gw j
 rw[←(d _).1]
 exact aev E (List.replicate (ids.length-k) none) h q j (by simp) (by simp;omega) S ids h2 h3 h4 (e _).2 (e _).1 (d _).2.1 (by rw[(d _).2.2.1]) (d _).2.2.2
theorem akQ (h:∀ σ:NM,eB σ (C id).1=(C σ).1∧(C id).2.map (aL.aY σ)=(C σ).2:=by
  intro σ;simp[sH,vD,sJ,sU,sY,s5,py,px,AV.aY,eB,jt,sD,lX,mT,sZ,aV,ct,-List.map_append,-List.map_drop,-List.map_take,-List.map_set,-List.map_replicate]) :
 ∀ σ:NM,eB σ (C id).1=(C σ).1∧(C id).2.map (aL.aY σ)=(C σ).2:=h
theorem bc {B:NM→TP}(h:∀ σ:NM,(B id).1=(B σ).1∧(B id).2.1.aY σ=(B σ).2.1∧(B id).2.2.1.map (Option.map (aL.aY σ))=(B σ).2.2.1∧(B id).2.2.2.map (aL.aY σ)=(B σ).2.2.2:=by
 intro σ;simp[sH,vD,sJ,sU,sY,s5,py,px,AV.aY,eB,jt,sD,lX,mT,sZ,aV,ct,-List.map_append,-List.map_drop,-List.map_take,-List.map_set,-List.map_replicate])(a:(B id).2.2.1.length=k:=by rfl) :
 (∀ σ:NM,(B id).1=(B σ).1∧(B id).2.1.aY σ=(B σ).2.1∧(B id).2.2.1.map (Option.map (aL.aY σ))=(B σ).2.2.1∧(B id).2.2.2.map (aL.aY σ)=(B σ).2.2.2)∧(B id).2.2.1.length=k:=⟨h,a⟩
theorem bd {B:NM→TB}(h:∀ σ:NM,(B id).1.aY σ=(B σ).1∧(B id).2.1.map (Option.map (aL.aY σ))=(B σ).2.1∧(B id).2.2.map (aL.aY σ)=(B σ).2.2:=by
 intro σ;simp[sH,vD,sJ,sU,sY,s5,py,px,AV.aY,eB,jt,sD,lX,mT,sZ,aV,ct,-List.map_append,-List.map_drop,-List.map_take,-List.map_set,-List.map_replicate])(a:(B id).2.1.length=k:=by rfl) :
 (∀ σ:NM,(B id).1.aY σ=(B σ).1∧(B id).2.1.map (Option.map (aL.aY σ))=(B σ).2.1∧(B id).2.2.map (aL.aY σ)=(B σ).2.2)∧(B id).2.1.length=k:=⟨h,a⟩
theorem asT (m:Nat){f:Nat}{B:R→NM→TP}{e:Option R}(h:SY T P (fun r=>Ae k (B r)) (St.start T f (C id).1 (oX m (mR 0 (C id).2))) e)(hb:∀ r,(∀ σ:NM,(B r id).1=(B r σ).1∧(B r id).2.1.aY σ=(B r σ).2.1∧(B r id).2.2.1.map (Option.map (aL.aY σ))=(B r σ).2.2.1∧(B r id).2.2.2.map (aL.aY σ)=(B r σ).2.2.2)∧(B r id).2.2.1.length=k:=by intro r;exact bc)(a:∀ σ:NM,eB σ (C id).1=(C σ).1∧(C id).2.map (aL.aY σ)=(C σ).2:=by exact akQ)(d:m=(C id).2.length:=by rfl)(j:Nat.ble k (C id).2.length=true:=by kernel_rfl):afb P e f k C B:=
 fun r l=>agx K.ok m (h _ l) (hb r) a d j
theorem P8 (m:Nat){f:Nat}{B:R→NM→TB}{e:Option R}(h:SY T P (fun r=>Ad k (B r)) (St.start T f (C id).1 (oX m (mR 0 (C id).2))) e)(hb:∀ r,(∀ σ:NM,(B r id).1.aY σ=(B r σ).1∧(B r id).2.1.map (Option.map (aL.aY σ))=(B r σ).2.1∧(B r id).2.2.map (aL.aY σ)=(B r σ).2.2)∧(B r id).2.1.length=k:=by intro r;exact bd)(a:∀ σ:NM,eB σ (C id).1=(C σ).1∧(C id).2.map (aL.aY σ)=(C σ).2:=by exact akQ)(d:m=(C id).2.length:=by rfl)(j:Nat.ble k (C id).2.length=true:=by kernel_rfl):LG P e f k C B:=
 fun r l=>agx (B:=fun σ=>(true,B r σ)) K.ok m (h _ l) ⟨fun σ=>⟨rfl,(hb r).1 σ⟩,(hb r).2⟩ a d j
theorem sQ (n nx:Nat)(ids:List Nat){B:β→NM→TB}{F:Option β}{f:β→Option R}(a:LG P F g k C B)(q:∀ v,SY T P Q (EV (B v (tg (ids.take k) nx)).1 (BT k (B v) ids nx) (ab T P n s)) (f v))(h:ZT T P (ab T P n s)=some (g,(C (tg ids nx)).1):=by kernel_rfl)(h1:(NZ (ab T P n s)).nx=nx:=by kernel_rfl)(h2:Nat.ble (NZ (ab T P n s)).lim (NZ (ab T P n s)).nx=true:=by kernel_rfl)(h3:ids.Nodup:=by decide)(h4:ids.map (NZ (ab T P n s)).get=(C (tg ids nx)).2.map some:=by kernel_rfl)(d:ids.all (Nat.ble (NZ (ab T P n s)).lim)=true:=by kernel_rfl):SY T P Q s (F>>=f):=
 sV fun v e=>fun _ j=>yG K.ok n (a v e _ nx ids (wK h1 h2 h3 h4 d)) (q v _ j) h
theorem YN {s:St}(h:C2 s=true):NZ s=jY s:=by cases s<;>simp_all [C2]<;>rfl
theorem YO {T:FT}{P:Program}{s:St}(h:C2 s=true):ZT T P s=I7 T P s:=by cases s<;>simp_all [C2]<;>rfl
theorem sP (n nx:Nat)(ids:List Nat){B:β→NM→TP}{F:Option β}{f:β→Option R}(d:afb P F g k C B)(q:∀ v,SY T P Q (alS (B v (tg (ids.take k) nx)).1 (B v (tg (ids.take k) nx)).2.1 (W7 k (B v) ids nx) (ab T P n s)) (f v))(h:I7 T P (ab T P n s)=some (g,(C (tg ids nx)).1):=by kernel_rfl)(h1:(jY (ab T P n s)).nx=nx:=by kernel_rfl)(h2:Nat.ble (jY (ab T P n s)).lim (jY (ab T P n s)).nx=true:=by kernel_rfl)(h3:ids.Nodup:=by decide)(h4:ids.map (jY (ab T P n s)).get=(C (tg ids nx)).2.map some:=by kernel_rfl)(j:ids.all (Nat.ble (jY (ab T P n s)).lim)=true:=by kernel_rfl)(a:C2 (ab T P n s)=true:=by kernel_rfl):SY T P Q s (F>>=f):=
 sV fun v e _ l=>by
  have c:=d v e _ nx ids (wK h1 h2 h3 h4 j)
  have q:=q v _ l
  cases hb:(B v (tg (ids.take k) nx)).1 with
  | true=>
    rw[hb] at q c
    exact yG K.ok n (by rw[YN a];exact c) q (by rw[YO a];exact h)
  | false=>
    rw[hb] at q c
    exact aun K.ok n c q h a
theorem mg (n:Nat){B:R→NM→TB}{x:R}(v:AV)(a:List Nat)(hu:kq (BL (ab T P n s)) a 0 (B x id).2.1:=by exact uT)(ha:oZ (BL (ab T P n s)) a (a.drop k) (B x id).2.2:=by exact gK)(hf:lJ (BL (ab T P n s)) a v (B x id).1:=by exact .pure pv)(h:wN (ab T P n s)=some v:=by kernel_rfl)(d:zf k (B x id).2.2.length a=true:=by kernel_rfl):SY T P (fun r=>Ad k (B r)) s (some x):=
 sE (Q:=fun r=>Ad k (B r)) (asP K.ok n v a hf hu ha h d)
theorem afD (n:Nat){B:R→NM→TP}{x:R}(v:AV)(a:List Nat)(hu:kq (BL (ab T P n s)) a 0 (B x id).2.2.1:=by exact uT)(ha:oZ (BL (ab T P n s)) a (a.drop k) (B x id).2.2.2:=by exact gK)(hf:lJ (BL (ab T P n s)) a v (B x id).2.1:=by exact .pure pv)(h:wN (ab T P n s)=some v:=by kernel_rfl)(hb:(B x id).1=true:=by kernel_rfl)(d:zf k (B x id).2.2.2.length a=true:=by kernel_rfl):SY T P (fun r=>Ae k (B r)) s (some x):=
 sE (Q:=fun r=>Ae k (B r)) (by unfold Ae;rw[hb];exact asP K.ok n v a hf hu ha h d)
theorem za (n:Nat){B:R→NM→TP}{x:R}(v:AV)(a:List Nat)(hu:kq (BL (ab T P n s)) a 0 (B x id).2.2.1:=by exact uT)(ha:oZ (BL (ab T P n s)) a (a.drop k) (B x id).2.2.2:=by exact gK)(hf:lJ (BL (ab T P n s)) a v (B x id).2.1:=by exact .eu (.pure pv))(h:W4 (ab T P n s)=some v:=by kernel_rfl)(hb:(B x id).1=false:=by kernel_rfl)(d:zf k (B x id).2.2.2.length a=true:=by kernel_rfl):SY T P (fun r=>Ae k (B r)) s (some x):=
 sE (Q:=fun r=>Ae k (B r)) (by unfold Ae;rw[hb];exact aum K.ok n v a hf hu ha h d)
variable {S : ag}
theorem alT {α β:Type}(f:α→β)(l:List α):some (de.val (.sc (.int .i64 ((l.map f).length:Nat))) S)=some (.val (.sc (.int .i64 (l.length:Int))) S):=by grind
theorem OA (g:Gh)(x:Value)(h:VR g .an x):VR g (.lit []) x:=by cases h;exact .jV
theorem alU {P:Program}{α:Type} [C:Ec P α] {ys:List α} (h:S.get k=some (.arr C.m (ys.map C.enc)):=by kernel_rfl):iT S (.ai k 0 ys.length)=some (ys.map C.enc):=bC _ (.inr ⟨k,C.m,rfl,h⟩)
theorem sA [C:Ec P α] (n d k nx:Nat) {xs ys:List α} {f:Option R} (q:SY T P Q (eC (fun S=>.val (.ai nx 0 (xs++ys).length) ((S.del d).add (.arr C.m ((xs++ys).map C.enc)))) (ab T P n s)) f)
  (e:yq P (ab T P n s)=mN P (e8 (ab T P n s)) C.t C.t (.ai d 0 xs.length) (.ai k 0 ys.length):=by kernel_rfl) (h:j3 (.val (.ai nx 0 (xs++ys).length) (((e8 (ab T P n s)).del d).add (.arr C.m ((xs++ys).map C.enc)))) (ab T P n s)=true:=by kernel_rfl)
  (j:(e8 (ab T P n s)).get d=some (.arr C.m (xs.map C.enc)):=by kernel_rfl) (hs:iT (e8 (ab T P n s)) (.ai k 0 ys.length)=some (ys.map C.enc):=by kernel_rfl) (l:(e8 (ab T P n s)).nx=nx:=by kernel_rfl)
  (o:(Nat.ble ((e8 (ab T P n s)).nx+1) 8192&&Nat.ble (e8 (ab T P n s)).lim (e8 (ab T P n s)).nx)=true:=by kernel_rfl) (a:Nat.ble (e8 (ab T P n s)).lim d=true:=by kernel_rfl) (hy:ys≠[]:=by simp) :
  SY T P Q s (if decide (xs.length+ys.length≤1048576) then f else none):=
 sG fun c=>sT (bF K.ok n (fun S=>mN P S C.t C.t (.ai d 0 xs.length) (.ai k 0 ys.length)) (fun S=>.val (.ai nx 0 (xs++ys).length) ((S.del d).add (.arr C.m ((xs++ys).map C.enc)))) e h
  (n7 C.h3 C.h4 (fun x=>by rw[C.cs.eq,C.cs.len]) C.ce j hs rfl l o a hy c)) q
theorem Re [C:Ec P α] (n d nx:Nat) {xs ys:List α} {f:Option R} (hy:ys≠[]) (q:SY T P Q (eC (fun S=>.val (.ai nx 0 (xs++ys).length) ((S.del d).add (.arr C.m ((xs++ys).map C.enc)))) (ab T P n s)) f)
  (e:yq P (ab T P n s)=mN P (e8 (ab T P n s)) C.t C.t (.ai d 0 xs.length) (.lit (ys.map C.enc)):=by kernel_rfl) (h:j3 (.val (.ai nx 0 (xs++ys).length) (((e8 (ab T P n s)).del d).add (.arr C.m ((xs++ys).map C.enc)))) (ab T P n s)=true:=by kernel_rfl)
  (j:(e8 (ab T P n s)).get d=some (.arr C.m (xs.map C.enc)):=by kernel_rfl) (l:(e8 (ab T P n s)).nx=nx:=by kernel_rfl)
  (o:(Nat.ble ((e8 (ab T P n s)).nx+1) 8192&&Nat.ble (e8 (ab T P n s)).lim (e8 (ab T P n s)).nx)=true:=by kernel_rfl) (a:Nat.ble (e8 (ab T P n s)).lim d=true:=by kernel_rfl) :
  SY T P Q s (if decide (xs.length+ys.length≤1048576) then f else none):=
 sG fun c=>sT (bF K.ok n (fun S=>mN P S C.t C.t (.ai d 0 xs.length) (.lit (ys.map C.enc))) (fun S=>.val (.ai nx 0 (xs++ys).length) ((S.del d).add (.arr C.m ((xs++ys).map C.enc)))) e h
  (n7 C.h3 C.h4 (fun x=>by rw[C.cs.eq,C.cs.len]) C.ce j (bC _ (.inl rfl)) rfl l o a hy c)) q
theorem afE [C:Ec P α] (n k nx:Nat) {ys:List α} {f:Option R} (q:SY T P Q (eC (fun S=>.val (.ai nx 0 ys.length) (S.add (.arr C.m (ys.map C.enc)))) (ab T P n s)) f)
  (a:yq P (ab T P n s)=mN P (e8 (ab T P n s)) C.t C.t .an (.ai k 0 ys.length):=by kernel_rfl) (d:j3 (.val (.ai nx 0 ys.length) ((e8 (ab T P n s)).add (.arr C.m (ys.map C.enc)))) (ab T P n s)=true:=by kernel_rfl)
  (hs:iT (e8 (ab T P n s)) (.ai k 0 ys.length)=some (ys.map C.enc):=by kernel_rfl) (e:(e8 (ab T P n s)).nx=nx:=by kernel_rfl)
  (h:(Nat.ble ((e8 (ab T P n s)).nx+1) 8192&&Nat.ble (e8 (ab T P n s)).lim (e8 (ab T P n s)).nx)=true:=by kernel_rfl) (hy:ys≠[]:=by simp):SY T P Q s (if decide (ys.length≤1048576) then f else none):=
 sG fun c=>sT (bF K.ok n (fun S=>mN P S C.t C.t .an (.ai k 0 ys.length)) (fun S=>.val (.ai nx 0 ys.length) (S.add (.arr C.m (ys.map C.enc)))) a d
  (Aw (.inl rfl) C.h3 C.h4 (fun x=>by rw[C.cs.eq,C.cs.len]) C.ce hs e h hy c)) q
theorem ZZ [C:Ec P α] (n nx:Nat) {ys:List α} {f:Option R} (hy:ys≠[]) (q:SY T P Q (eC (fun S=>.val (.ai nx 0 ys.length) (S.add (.arr C.m (ys.map C.enc)))) (ab T P n s)) f)
  (a:yq P (ab T P n s)=mN P (e8 (ab T P n s)) C.t C.t .an (.lit (ys.map C.enc)):=by kernel_rfl) (d:j3 (.val (.ai nx 0 ys.length) ((e8 (ab T P n s)).add (.arr C.m (ys.map C.enc)))) (ab T P n s)=true:=by kernel_rfl)
  (e:(e8 (ab T P n s)).nx=nx:=by kernel_rfl) (h:(Nat.ble ((e8 (ab T P n s)).nx+1) 8192&&Nat.ble (e8 (ab T P n s)).lim (e8 (ab T P n s)).nx)=true:=by kernel_rfl):SY T P Q s (if decide (ys.length≤1048576) then f else none):=
 sG fun c=>sT (bF K.ok n (fun S=>mN P S C.t C.t .an (.lit (ys.map C.enc))) (fun S=>.val (.ai nx 0 ys.length) (S.add (.arr C.m (ys.map C.enc)))) a d
  (Aw (.inl rfl) C.h3 C.h4 (fun x=>by rw[C.cs.eq,C.cs.len]) C.ce (bC _ (.inl rfl)) e h hy c)) q
theorem sW [C:Ec P α] (n d k nx:Nat) (w:List AV) {xs ys:List α} {f:Option R} (q:SY T P Q (eC (fun S=>.val (.ai nx 0 (xs++ys).length) ((S.del d).add (.arr C.m ((xs++ys).map C.enc)))) (ab T P n s)) f)
  (e:yq P (ab T P n s)=mN P (e8 (ab T P n s)) C.t C.t (.ai d 0 xs.length) (.ai k 0 ys.length):=by kernel_rfl) (h:((dG (ab T P n s)).bind (·.dst)).isSome=true:=by kernel_rfl) (j:sized C.m w=true:=by kernel_rfl)
  (l:(e8 (ab T P n s)).get d=some (.arr C.m (xs.map C.enc)):=by kernel_rfl) (hs:iT (e8 (ab T P n s)) (.ai k 0 ys.length)=some w:=by kernel_rfl) (o:uE w=ys.map C.enc:=by kernel_rfl) (p:(e8 (ab T P n s)).nx=nx:=by kernel_rfl)
  (r:(Nat.ble ((e8 (ab T P n s)).nx+1) 8192&&Nat.ble (e8 (ab T P n s)).lim (e8 (ab T P n s)).nx)=true:=by kernel_rfl) (a:Nat.ble (e8 (ab T P n s)).lim d=true:=by kernel_rfl) (hy:ys≠[]:=by simp) :
  SY T P Q s (if decide (xs.length+ys.length≤1048576) then f else none):=
 sG fun c=>sT (N7 K.ok n (fun S=>mN P S C.t C.t (.ai d 0 xs.length) (.ai k 0 ys.length)) (.ai nx 0 (xs++ys).length) (fun S=>(S.del d).add (.arr C.m ((xs++ys).map C.enc))) e h
  (AN C.h3 C.h4 (fun x=>by rw[C.cs.eq,C.cs.len]) C.ce j l hs o rfl p r a hy c)) q
theorem aut [C:Ec P α] (n k nx:Nat) (w:List AV) {ys:List α} {f:Option R} (q:SY T P Q (eC (fun S=>.val (.ai nx 0 ys.length) (S.add (.arr C.m (ys.map C.enc)))) (ab T P n s)) f)
  (a:yq P (ab T P n s)=mN P (e8 (ab T P n s)) C.t C.t .an (.ai k 0 ys.length):=by kernel_rfl) (d:((dG (ab T P n s)).bind (·.dst)).isSome=true:=by kernel_rfl) (e:sized C.m w=true:=by kernel_rfl)
  (hs:iT (e8 (ab T P n s)) (.ai k 0 ys.length)=some w:=by kernel_rfl) (h:uE w=ys.map C.enc:=by kernel_rfl) (j:(e8 (ab T P n s)).nx=nx:=by kernel_rfl)
  (l:(Nat.ble ((e8 (ab T P n s)).nx+1) 8192&&Nat.ble (e8 (ab T P n s)).lim (e8 (ab T P n s)).nx)=true:=by kernel_rfl) (hy:ys≠[]:=by simp):SY T P Q s (if decide (ys.length≤1048576) then f else none):=
 sG fun c=>sT (N7 K.ok n (fun S=>mN P S C.t C.t .an (.ai k 0 ys.length)) (.ai nx 0 ys.length) (fun S=>S.add (.arr C.m (ys.map C.enc))) a d
  (FH (.inl rfl) C.h3 C.h4 e hs h j l hy c)) q
end
end Go.Eng
namespace Go.Eng
section
variable {T : FT} {P : Program} {Q : gQ → ag → Prop} {ι α β : Type}
variable {s : St}
theorem QK (E:cU T P)(n:Nat){R:ι→Prop}{g:Nat}{args:List AV}(v:AV)(r:ι→ag→ag)(e:fU P g args (jY (ab T P n s)) fun x b=>∃ c,R c∧x=.ret v∧b=r c (jY (ab T P n s)))(q:∀ c,R c→SX P Q (N6 v (r c) (ab T P n s)))(h:I7 T P (ab T P n s)=some (g,args):=by kernel_rfl)(hf:Ql (ab T P n s)=true:=by kernel_rfl):SX P Q s:=by
 refine⟨cL E.ok E.mix n ?_⟩
 generalize ab T P n s=s at h hf e q
 cases s with
 | run fn F S k=>
   unfold I7 at h
   cases d:dG (.run fn F S k) with
   | none=>rw[d] at h;simp at h
   | some o=>
     rw[d] at h
     simp only at h
     cases a:gJ o.op with
     | none=>rw[a] at h;simp at h
     | some c=>
       rw[a] at h
       simp only at h
       split at h<;>simp only[bj,nj,reduceCtorEq] at h
       rename_i l
       obtain⟨rfl,rfl⟩:=h
       obtain⟨_,q2⟩:=kL E.ok a l
       obtain⟨m,all,i,rest,td,f,j,t⟩:=pD d
       have:=fC.all (P:=P) (Qf:=Q) (ι:={ c:ι // R c }) (A:=fun p Q=>Reach P (F.after o v all rest td) (r p.1 S) (GK P k fn Q)) hf fun p=>by
        have:=(q _ p.2).out
        simp only[N6,ak,f,tp,j,gr] at this
        exact this
       exact fC.mono (fun Q q=>Reach.xU m f j t (fy a) (q2 S) e fun r b u=>by
        obtain⟨c,w,rfl,rfl⟩:=u
        exact q ⟨c,w⟩) this
 | _=>simp[Ql] at hf
theorem Ay (E:cU T P)(n:Nat){f:α→AV}{g:β→AV}{id m since:Nat}{sn:List Nat}{l:List (α×β)}(hs:since=l.length)(o:(∀ i,i<l.length→i∈sn)→SX P Q (eC (fun S=>.val (.bO [.sc (.bool false)]) S) (ab T P n s)))(p:∀ i x,l[i]? = some x→i∉sn→SX P Q (eC (fun S=>.val (.bO [.sc (.bool true),f x.1,g x.2]) (S.set id (.mi m since (sn++[i])))) (ab T P n s)))(h:WH (ab T P n s)=some (.ptr id 0 0):=by kernel_rfl)(h1:(jY (ab T P n s)).get id=some (.mi m since sn):=by kernel_rfl)(h2:(jY (ab T P n s)).get m=some (.mp (l.map (cg f g))):=by kernel_rfl)(q:Nat.ble (jY (ab T P n s)).lim id=true:=by kernel_rfl):SX P Q s:=by
 obtain⟨L,c,d⟩:=IT h1 h2 hs q
 refine⟨QJ E.ok E.mix n h c fun v j t=>?_⟩
 have a:∀ r:ag→de,eC r (ab T P n s)=Jh (r (jY (ab T P n s))) (ab T P n s):=by
   intro r
   cases e:ab T P n s with
   | run fn F S k=>rfl
   | _=>rw[e] at h;simp[WH] at h
 have b:∀ v j,Jh (.val v j) (ab T P n s)=ak v (some j) (ab T P n s):=by
   intro v j
   cases e:ab T P n s with
   | run fn F S k=>rfl
   | _=>rw[e] at h;simp[WH] at h
 rcases d v j t with⟨rfl,rfl,k⟩ | ⟨i,x,k1,k2,rfl,rfl⟩
 · have:=(o k).out
   rwa [a,b] at this
 · have:=(p i x k1 k2).out
   rwa [a,b] at this
def agy (P:Program)(f k:Nat)(C:NM→TC)(R:ι→Prop)(B:ι→NM→TB):Prop:=∀(S:ag) (nx:Nat) (ids:List Nat),aj1 S nx ids (C (tg ids nx)).2 →
 fU P f (C (tg ids nx)).1 S fun a b=>∃ c,R c∧a=.ret (B c (tg (ids.take k) nx)).1∧b=BT k (B c) ids nx S
def G9 (k:Nat)(R:ι→Prop)(B:ι→NM→TB):gQ→ag→Prop:=fun r S=>∃ c,R c∧Ad k (B c) r S
variable {k : Nat}
theorem qx {R:ι→Prop}{B:ι→NM→TB}(h:∀ c,vk k (Ad k (B c))):vk k (G9 k R B):=fun σ h1 h2 r S a ⟨c,b,q⟩ hs=>⟨c,b,h c σ h1 h2 r S a q hs⟩
theorem UK (E:cU T P)(n:Nat){R:ι→Prop}{B:ι→NM→TB}(c:ι)(d:R c)(v:AV)(a:List Nat)(hf:lJ (BL (ab T P n s)) a v (B c id).1)(hu:kq (BL (ab T P n s)) a 0 (B c id).2.1)(ha:oZ (BL (ab T P n s)) a (a.drop k) (B c id).2.2)(h:wN (ab T P n s)=some v:=by kernel_rfl)(b:zf k (B c id).2.2.length a=true:=by kernel_rfl):SX P (G9 k R B) s:=by
 refine⟨cL E.ok E.mix n ?_⟩
 generalize ab T P n s=s at h hf hu ha
 unfold wN at h
 split at h<;>simp only[bj,reduceCtorEq] at h
 subst h
 simp only[zf,aS,decide_eq_true_eq,dg,List.mem_range,beq_iff_eq] at b
 obtain⟨⟨k1,k2⟩,k3⟩:=b
 refine⟨c,d,_,a,rfl,k1,oR k2,k3,hf,fun i o' e=>?_,fun i o' e=>?_⟩
 · have:=vJ hu i o' e
   rwa [xf] at this
 · obtain⟨id,o,p,q⟩:=vK ha i o' e
   exact⟨id,o,by rwa [qW] at p,q⟩
theorem ajD (E:cU T P)(m:Nat){f:Nat}{C:NM→TC}{R:ι→Prop}{B:ι→NM→TB}(h:SX P (G9 k R B) (St.start T f (C id).1 (oX m (mR 0 (C id).2))))(hb:∀ c,(∀ σ:NM,(B c id).1.aY σ=(B c σ).1∧(B c id).2.1.map (Option.map (aL.aY σ))=(B c σ).2.1∧(B c id).2.2.map (aL.aY σ)=(B c σ).2.2)∧(B c id).2.1.length=k)(d:∀ σ:NM,eB σ (C id).1=(C σ).1∧(C id).2.map (aL.aY σ)=(C σ).2)(n:m=(C id).2.length)(p:Nat.ble k (C id).2.length=true):agy P f k C R B:=by
 intro S nx ids q
 obtain⟨h1,h2,h3,h4⟩:=q
 subst h1
 subst n
 have j:ids.length=(C id).2.length:=by
  have r:∀ {ids:List Nat} {os:List aL},w8 S ids os→ids.length=os.length:=by
   intro ids
   induction ids with
   | nil=>intro os h;cases os with
     | nil=>rfl
     | cons=>simp[w8] at h
   | cons a l t=>intro os h;cases os with
     | nil=>simp[w8] at h
     | cons b m=>simp[t h.2]
  rw[r h4,←(d _).2,sq]
 have g:=gw p
 rw[←(d (tg ids S.nx)).2] at h4
 obtain⟨a,b⟩:=F8 h4
 rw[←(d (tg ids S.nx)).1]
 refine(fU.agt (b:=true) (R:=R) (jr:=fun c=>(B c id).2.1) (add:=fun c=>(B c id).2.2) (v' := fun c=>(B c id).1) (pad:=List.replicate (ids.length-k) none) (Ce E.ok h.out) g (by simp) (by simp;omega) (QD _) rfl rfl (fun c=>(hb c).2) (gw h2) (by simpa using a) h3 fun i x o e u=>b i x _ e (by rw[sl,u];rfl)).mono fun y z ⟨c,v,w,q2⟩=>⟨c,v,?_,?_⟩
 · rw[w,((hb c).1 _).1]
 · rw[q2,((hb c).1 _).2.1,((hb c).1 _).2.2];rfl
end
theorem afd : ∀(N:Nat) (k:List Nat),k.Nodup→(∀ j,j∈k→j<N)→k.length≤N
 | 0,k,_,h=>by
   cases k with
   | nil=>simp
   | cons a _=>exact absurd (h a (by simp)) (by omega)
 | N+1,k,d,h=>by
   by_cases c:N∈k
   · have:=afd N (k.erase N) (d.erase N) fun j b=>by
      have h1:=d.mem_erase_iff.1 b
      have:=h j h1.2
      omega
     rw[List.length_erase_of_mem c] at this;omega
   · exact Nat.le_succ_of_le (afd N k d fun j b=>by
      have h1:=h j b
      have:j≠N:=fun e=>c (e▸b)
      omega)
end Go.Eng
namespace Go.Eng
open Go.Proofs Go.Shelf
theorem Inv.grow {S:ag}{g:Gh}{w:World}(hi:Inv S g w)(os:Array Obj):Inv S g (Sort.grow w os):=by
 have vZ:∀ b y,w.heap[b]? = some y→(Sort.grow w os).heap[b]? = w.heap[b]? := fun b y e=>Sort.heap_grow_old w os (BG.1 e).1
 refine⟨fun b c e=>?_,fun id o e=>?_,hi.inj,hi.fresh⟩
 · obtain⟨t,fz,q⟩:=hi.ro b c e
   exact⟨t,fz,(vZ b _ q).trans q⟩
 · obtain⟨l,a,b,c⟩:=hi.ob id o e
   obtain⟨y,hy⟩:=c.some
   exact⟨l,a,b,by rw[vZ _ _ hy];exact c⟩
theorem Ext.grow {S:ag}{g:Gh}{w:World}(os:Array Obj):Ext S g w S g (Sort.grow w os):=
 ⟨by simp,rfl,⟨rfl,bG _⟩,rfl,fun b hb _=>Sort.heap_grow_old w os hb,fun id o l h h1 h2 _=>⟨id,o,l,h,h1,h2,rfl⟩,Gh.le_refl _,bG _,rfl,fun _ _=>rfl,fun _ _=>rfl,fun _ _ e _=>.inl e,fun _ _ e=>e,fun a ha=>Sort.frozen?_grow w os a ha⟩
theorem VR.VT {g:Gh}{id off len:Nat}{x:Value}(h:VR g (.ai id off len) x)(d:0<len):∃ l cap,g.ph id=some l∧x=.slice (some ⟨l.cZ,l.base+off*l.sz,none⟩) len cap:=by
 cases h with
 | ai a b c=>exact⟨_,_,a,rfl⟩
 | hM a b=>omega
def ku (l:List Int):List Int:=l.mergeSort fun x y=>decide (x≤y)
variable {P : Program} {ρ : Ren}
theorem ML (L:Lays.n189 P ρ){S:ag}{o:Nat}(l:List Int)(Q:0<l.length)(R:l.length<4611686018427387904)(J:S.get o=some (.arr 1 (l.map (az .i64))))(p:S.lim≤o) :
  fU P (ρ.f 189) [.ai o 0 l.length] S fun r T=>r=.ret (.bO [])∧T=S.set o (.arr 1 ((ku l).map (az .i64))):=by
 intro g w xs hx hi
 obtain⟨b,K,Z,c,t,hb,bz,sz,d,I,C⟩:=hi.ob o _ J
 obtain⟨U,M,v0⟩:=hx.get (k:=0) rfl
 have E:xs = #[U]:=by
  apply Array.ext_getElem?
  intro i
  match i with
  | 0=>exact M
  | i+1=>rw[Array.getElem?_eq_none (by have:=hx.1;simp at this;omega)];simp
 subst E
 clear M hx
 obtain⟨Y,cap,z,rfl⟩:=v0.VT Q
 rw[K] at z;simp only[bj] at z;subst z
 rw[Nat.zero_mul,tZ]
 simp only[sq] at d
 have q:b.cZ<w.heap.size:=(BG.1 hb).1
 have key:∀ i:Nat,(h:i<l.length)→c[b.base+i]? = some (.int .i64 l[i]):=by
  intro i h
  have lt:b.base+i<c.size:=by omega
  have:=C i 0 (az .i64 l[i]) (az .i64 l[i]) c[b.base+i] (by simp[h]) rfl (by rw[Nat.mul_one,tZ];exact Ab lt)
  rw[Ab lt]
  generalize c[b.base+i]=y at this
  cases this with
  | sc=>rfl
 have V:Sort.Holds (Value.int .i64) w b.cZ b.base l.toArray:=by
  intro j u
  have F:j<l.length:=by simpa using u
  refine⟨?_,C8 (by show DF w.heap[b.cZ]? = true;rw[hb];rfl)⟩
  rw[getElem!_pos l.toArray _ u]
  simpa using cell_of hb (key j F)
 have s:=Any.slices_Sort_int L b.cZ b.base cap l w V q R
 refine s.mono ?_
 rintro e w' ⟨rfl,n,os,rfl⟩
 have N:(ku l).length=l.length:=List.length_mergeSort _
 rw[show(l.mergeSort fun x y=>decide (x≤y))=ku l from rfl]
 generalize ku l=D at N ⊢
 have G:(Sort.putRow (Value.int .i64) (Sort.ahead w n) b.cZ b.base D.toArray).heap[b.cZ]? = some (.cells (Sort.putCells (Value.int .i64) b.base D.toArray c) t (0,0)):=by
  simp[Sort.putRow,Sort.mapBlock,Sort.ahead,Fl,hb,Sort.onCells]
 obtain ⟨W,X⟩:=hi.jr (w' := Sort.putRow (Value.int .i64) (Sort.ahead w n) b.cZ b.base D.toArray) (o' := .arr 1 (D.map (az .i64))) J p K (by rw[Sort.size_putRow];rfl) G
  (fun j u=>by simp[Sort.putRow,Sort.mapBlock,Sort.ahead,Fl,Ne.symm u]) rfl ⟨rfl,Nat.le_add_right _ _⟩ rfl
  ⟨_,t,rfl,by simpa [Sort.putCells] using bz,sz,by simp only[sq,N];simpa [Sort.putCells] using d,fun e O=>by
   simp only[kJ] at O
   obtain⟨_,_,rfl⟩:=O
   rfl,fun i j e a y A B v=>by
   have m:i<D.length:=by
     have:=(mC.1 A).1;simpa using this
   have H:e=az .i64 D[i]:=by
     simp only[sl,qB m,lP,bj] at A
     exact A.symm
   subst H
   cases j with
   | succ j=>simp[az,AV.cells] at B
   | zero=>
     simp only[az,AV.cells,vw,bj] at B
     subst B
     have lt:b.base+i<c.size:=by omega
     simp only[Sort.putCells,Nat.mul_one,tZ,Array.getElem?_mapIdx,Ab lt,lP] at v
     rw[if_pos ⟨by omega,by simp;omega⟩] at v
     simp only[bj] at v
     subst v
     rw[show b.base+i-b.base=i by omega,getElem!_pos D.toArray i (by simpa using m)]
     exact .sc rfl⟩
 exact⟨.ret (.bO []),_,g,⟨rfl,rfl⟩,.bO rfl fun k a x e=>by simp at e,W.grow os,X.trans (Ext.grow os)⟩
theorem Ss (L:Lays.n189 P ρ)(S:ag):fU P (ρ.f 189) [.an] S fun r c=>r=.ret (.bO [])∧c=S:=by
 intro g w xs hx hi
 obtain⟨d,h,v0⟩:=hx.get (k:=0) rfl
 have b:xs = #[d]:=by
  apply Array.ext_getElem?
  intro i
  match i with
  | 0=>exact h
  | i+1=>rw[Array.getElem?_eq_none (by have:=hx.1;simp at this;omega)];simp
 subst b
 cases v0
 refine(Any.slices_Sort_int_none L none _ w).mono ?_
 rintro e w' ⟨rfl,rfl⟩
 exact⟨.ret (.bO []),S,g,⟨rfl,rfl⟩,.bO rfl fun k a x e=>by simp at e,hi,Ext.refl _ _ _⟩
end Go.Eng

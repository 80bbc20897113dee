/- Contracts with several outcomes, the sort of numbers, and short forms for lifted functions; no conditions. -/
import Derived.Test.YthplmmeobggkfaaGreatVEngE
import Derived.KernelRfl
import Derived.Shelf.Sort.Plain
import Derived.Shelf.Slices.In.SortNone
set_option linter.all false
namespace Go.Eng
noncomputable section
variable {α R : Type}
open Classical in
noncomputable def B1 (l:List α)(sn:List Nat)(e:Option R)(f:Nat→α→Option R):Option R:=
 if ∀ i,i<l.length→i∈sn then e else if h:∃ r,∀ i x,l[i]? = some x→i∉sn→f i x=some r then some h.choose else none
variable {sn : List Nat} {e : Option R} {r : R}
theorem VV {l:List α}{f:Nat→α→Option R}(h:B1 l sn e f=some r):((∀ i,i<l.length→i∈sn)→e=some r)∧∀ i x,l[i]? = some x→i∉sn→f i x=some r:=by
 unfold B1 at h
 split at h
 · simp_all[lr]
 · rename_i a
   split at h
   · rename_i hx
     cases h
     exact⟨fun q=>absurd q a,hx.choose_spec⟩
   · cases h
theorem Pt : ∀ {n:List (AV×AV)} {b i:Nat} {k v:AV},(i,k,v)∈kN sn n b→∃ j,i=b+j∧n[j]? = some (k,v)∧i∉sn:=by
 intro n
 induction n with
 | nil=>simp_all[kN]
 | cons p r o=>
   obtain⟨t,v0⟩:=p
   intro b i k v h
   simp only[kN] at h
   have rest:(i,k,v)∈kN sn r (b+1)→∃ j,i=b+j∧((t,v0)::r)[j]? = some (k,v)∧i∉sn:=fun h=>by
     obtain⟨j,a,c,d⟩:=o h
     exact⟨j+1,by omega,by simpa using c,d⟩
   split at h
   · exact rest h
   · rename_i hb
     rcases cF.1 h with q | q
     · simp only[lR] at q
       obtain⟨rfl,rfl,rfl⟩:=q
       exact⟨0,rfl,rfl,fun q=>by rw[EG.2 q] at hb;simp at hb⟩
     · exact rest q
theorem Pu : ∀ {a:List (AV×AV)} {b:Nat},kN sn a b=[]→∀ j,j<a.length→b+j∈sn:=by
 intro a
 induction a with
 | nil=>intro b _ j h;simp at h
 | cons p r c=>
   obtain⟨i,v0⟩:=p
   intro b h j d
   simp only[kN] at h
   split at h
   · rename_i hb
     cases j with
     | zero=>exact EG.1 hb
     | succ j=>
       have:=c h j (by simpa using d)
       rwa [show b+(j+1)=b+1+j from by omega]
   · simp at h
variable {id m since : Nat}
theorem Su {S:ag}{v:AV}{c:ag}:∀ {l:List (Nat×AV×AV)},(v,c)∈Fl S id m since sn l→∃ i k x,(i,k,x)∈l∧v=.bO [.sc (.bool true),k,x]∧c=S.set id (.mi m since (sn++[i])):=by
 intro l
 induction l with
 | nil=>intro h;simp[Fl] at h
 | cons p r d=>
   obtain⟨i,k,x⟩:=p
   intro h
   simp only[Fl] at h
   rcases cF.1 h with q | q
   · simp only[lR] at q
     exact⟨i,k,x,jq .., q.1,q.2⟩
   · obtain⟨i,k,x,a,b⟩:=d q
     exact⟨i,k,x,Ez _ a,b⟩
section
variable {α β : Type} {f : α → AV} {g : β → AV} {l : List (α × β)} {S : ag} {id m since : Nat} {sn : List Nat}
theorem IZ (h1:S.get id=some (.mi m since sn))(h2:S.get m=some (.mp (l.map (cg f g))))(hs:since=l.length)(t:Nat.ble S.lim id=true):∃ L,Fm S (.ptr id 0 0)=some L∧∀ v n,(v,n)∈L →
   (v=.bO [.sc (.bool false)]∧n=S∧∀ i,i<l.length→i∈sn)∨∃ i x,l[i]? = some x∧i∉sn∧v=.bO [.sc (.bool true),f x.1,g x.2]∧n=S.set id (.mi m since (sn++[i])):=by
 subst hs
 refine⟨Lz S id m l.length sn (kN sn (l.map (cg f g)) 0),by simp only[Fm,h1,h2,t,rf,vD],fun v n d=>?_⟩
 cases o:kN sn (l.map (cg f g)) 0 with
 | nil=>
   rw[o] at d
   simp only[Lz,px,lR] at d
   refine .inl ⟨d.1,d.2,fun i hi=>?_⟩
   have:=Pu o i (by simpa using hi)
   simpa using this
 | cons p r=>
   rw[o] at d
   simp only[Lz] at d
   obtain⟨i,k,x,a,b,c⟩:=Su d
   rw[←o] at a
   obtain⟨j,q,h,u⟩:=Pt a
   rw[pw] at h
   cases hx:l[j]? with
   | none=>simp_all
   | some y=>
     rw[hx] at h
     simp only[j9,ba,cg,lR] at h
     simp only[uu] at q
     subst q
     exact .inr ⟨i,y,hx,u,by rw[b,←h.1,←h.2],c⟩
theorem Sv : ∀(sn:List Nat) (i:Nat),Ip (sn++[i])=some i:=by
 intro sn
 induction sn with
 | nil=>intro i;rfl
 | cons a r c=>
   intro i
   cases r with
   | nil=>rfl
   | cons b r=>exact c i
def ZY (S:ag)(a:AV):Option dg:=mP S (x7 S a)
theorem JH {i:Nat}{x:α×β}(h1:S.get id=some (.mi m since (sn++[i])))(h2:S.get m=some (.mp (l.map (cg f g))))(hs:since=l.length)(hx:l[i]? = some x):ZY S (.ptr id 0 0)=some (.val (.bO [f x.1,g x.2]) S):=by
 simp[ZY,x7,h1,h2,Sv,hs,vD,j8,hx,cg,mP]
end
theorem QL {σ:Nat→Nat}(m since:Nat)(sn:List Nat):(aO.mi m since sn).aX σ=.mi (σ m) since sn:=rfl
def WK (s:St):Option AV:=
 match s with
 | .run _ F _ k=>match flat k,dI s with
   | true,some o=>match o.op with
     | .next a false=>F.eval a
     | _=>none
   | _,_=>none
 | _=>none
section
variable {T : FT} {P : Program} {Qf : gL → ag → Prop}
variable {s : St}
theorem QM (y:di T P)(c:P.follows .mixedOrders=true)(n:Nat){a:AV}{L:List (AV×ag)}(h:WK (ab T P n s)=some a)(j:Fm (j5 (ab T P n s)) a=some L)(q:∀ v t,(v,t)∈L→br P Qf (ak v (some t) (ab T P n s))):br P Qf s:=by
 refine cO y c n ?_
 generalize ab T P n s=s at h j q
 cases s with
 | run fn F S k=>
   simp only[WK] at h
   split at h<;>try (simp at h;done)
   rename_i o u z
   split at h<;>try (simp at h;done)
   rename_i D b
   obtain⟨B,all,i,rest,td,w,x,C⟩:=pI z
   have j:Fm S a=some L:=j
   have hf:Fp F S o.op=some L:=by simp only[Fp,b,h,j]
   have:=fD.all (P:=P) (Qf:=Qf) (ι:={ p:AV×ag // p∈L }) (A:=fun p Q=>Reach P (F.after o p.1.1 all rest td) p.1.2 (GK P k fn Q)) u fun p=>by
    have:=q _ _ p.2
    simp only[ak,w,tI,x,gz] at this
    exact this
   exact fD.mono (fun Q q=>Reach.JS B w x C (by rw[b];rfl) hf fun v t d=>q ⟨(v,t),d⟩) this
 | _=>simp[WK] at h
end
section
variable {T : FT} {P : Program} {Q : gL → ag → Prop} {α β R : Type} {f : α → AV} {g : β → AV}
variable {s : St}
theorem aeG (E:cX T P)(n:Nat){l:List (α×β)}{e:Option R}{F:Nat→α×β→Option R}{r:R}(h:B1 l sn e F=some r)(t:WK (ab T P n s)=some (.ptr id 0 0))(h1:(j5 (ab T P n s)).get id=some (.mi m since sn))(h2:(j5 (ab T P n s)).get m=some (.mp (l.map (cg f g))))(hs:since=l.length)(u:Nat.ble (j5 (ab T P n s)).lim id=true)(w:e=some r→SX P Q (eH (fun S=>.val (.bO [.sc (.bool false)]) S) (ab T P n s)))(y:∀ i x,l[i]? = some x→F i x=some r→SX P Q (eH (fun S=>.val (.bO [.sc (.bool true),f x.1,g x.2]) (S.set id (.mi m since (sn++[i])))) (ab T P n s))):SX P Q s:=by
 obtain⟨a,b⟩:=VV h
 obtain⟨L,c,d⟩:=IZ h1 h2 hs u
 refine⟨QM E.ok E.mix n t c fun v p z=>?_⟩
 have j:∀ r:ag→dg,eH r (ab T P n s)=Jp (r (j5 (ab T P n s))) (ab T P n s):=by
   intro r
   cases q:ab T P n s with
   | run fn F S k=>rfl
   | _=>simp_all[WK]
 have o:∀ v p,Jp (.val v p) (ab T P n s)=ak v (some p) (ab T P n s):=by
   intro v p
   cases q:ab T P n s with
   | run fn F S k=>rfl
   | _=>rw[q] at t;simp[WK] at t
 rcases d v p z with⟨rfl,rfl,k⟩ | ⟨i,x,k1,k2,rfl,rfl⟩
 · have:=(w (a k)).out
   rwa [j,o] at this
 · have:=(y i x k1 (b i x k1 k2)).out
   rwa [j,o] at this
end
end
abbrev dd {α:Type} [Inhabited α]:α:=default
variable {v : AV}
theorem pv (h:aV v=true:=by simp[aV,cG,dA,cu,-List.map_append,-List.map_drop,-List.map_take,-List.map_set,-List.map_replicate]):aV v=true:=h
theorem pl {l:List AV}(h:cG l=true:=by simp[aV,cG,dA,cu,-List.map_append,-List.map_drop,-List.map_take,-List.map_set,-List.map_replicate]):cG l=true:=h
variable {x : Int}
theorem iR {k:IntKind}(h:cy k x=true):some (AV.sc (.int k (k.wrap x)))=some (.sc (.int k x)):=by rw[JD h]
structure CS {α : Type} (enc : α → AV) (cells : α → List AV) (m : Nat) : Prop where
 eq : ∀ x, (enc x).cells = cells x
 len : ∀ x, (cells x).length = m
theorem auk (k:IntKind):CS (aA k) (fun n=>[.sc (.int k n)]) 1:=⟨fun _=>rfl,fun _=>rfl⟩
theorem asP : CS encS (fun n=>[.sc (.string n)]) 1:=⟨fun _=>rfl,fun _=>rfl⟩
section
variable {T : FT} {P : Program} {Q : gL → ag → Prop} {s : St} {α β R : Type}
theorem yI (E:cX T P)(n:Nat){k:IntKind}{f:Option R}{r:R}(h:(if cy k x then f else none)=some r)(q:cy k x=true→f=some r→SX P Q (ak (.sc (.int k x)) none (ab T P n s)))(c:NU P (ab T P n s)=some (.sc (.int k (k.wrap x))):=by kernel_rfl):SX P Q s:=
 wT E n _ _ c (iR (WI h).1) (q (WI h).1 (WI h).2)
variable {b : Bool}
theorem yB (E:cX T P)(n:Nat){t f:Option R}{r:R}(h:(if b then t else f)=some r)(d:b=true→t=some r→SX P Q (ak (.sc (.bool true)) none (ab T P n s)))(e:b=false→f=some r→SX P Q (ak (.sc (.bool false)) none (ab T P n s)))(j:NU P (ab T P n s)=some (.sc (.bool b)):=by kernel_rfl):SX P Q s:=
 Tv E n b j (fun c=>d c (Zk c h)) (fun c=>e c (ZU c h))
theorem aul (E:cX T P)(n:Nat){t f:Option R}{r:R}(h:(if b then t else f)=some r)(d:b=true→t=some r→SX P Q (eH (fun S=>.val (.sc (.bool true)) S) (ab T P n s)))(e:b=false→f=some r→SX P Q (eH (fun S=>.val (.sc (.bool false)) S) (ab T P n s)))(j:yH P (ab T P n s)=some (.val (.sc (.bool b)) (fe (ab T P n s))):=by kernel_rfl)(l:j7 (.val (.sc (.bool b)) (fe (ab T P n s))) (ab T P n s)=true:=by kernel_rfl):SX P Q s:=
 ajC E n b j l (fun c=>d c (Zk c h)) (fun c=>e c (ZU c h))
theorem yX (E:cX T P)(n t el:Nat){enc:α→AV}{cells:α→List AV}{m:Nat}(c:CS enc cells m){l:List α}{i:Int}{f:α→Option R}{r:R}(h:(bQ l i>>=f)=some r)
  (q:∀ x,bQ l i=some x→f x=some r→SX P Q (ak (.dO (cells x)) none (ab T P n s))) (d:NU P (ab T P n s)=dQ P ag.empty t (.lit (l.map enc)) (.sc (.int .i64 i)):=by kernel_rfl)
  (h1:P.underlying t=some (.slice el):=by kernel_rfl) (h2:tw P el=some m:=by kernel_rfl):SX P Q s:=by
 obtain⟨x,e,h⟩:=sq h
 exact wT E n _ (.dO (cells x)) d (aer e h1 h2 (c.eq x) (c.len x)) (q x e h)
variable {g : Nat} {A : List AV}
theorem yC (E:cX T P)(n:Nat){F:Option β}{V:β→AV}{f:β→Option R}{r:R}(hf:∀ v,F=some v→∀ S,fY P g A S fun c d=>c=.ret (V v)∧d=S)(h:(F>>=f)=some r)(q:∀ v,f v=some r→SX P Q (ak (V v) none (ab T P n s)))(j:Jd T P (ab T P n s)=some (g,A):=by kernel_rfl):SX P Q s:=by
 obtain⟨v,e,h⟩:=sq h
 exact FE E n g A (V v) j (hf v e) (q v h)
theorem aum (E:cX T P)(n:Nat){F:Option Bool}{a b:Option R}{r:R}(hf:∀ v,F=some v→∀ S,fY P g A S fun c d=>c=.ret (.sc (.bool v))∧d=S)(h:(F>>=fun v=>if v then a else b)=some r)(j:a=some r→SX P Q (ak (.sc (.bool true)) none (ab T P n s)))(l:b=some r→SX P Q (ak (.sc (.bool false)) none (ab T P n s)))(f:Jd T P (ab T P n s)=some (g,A):=by kernel_rfl):SX P Q s:=by
 obtain⟨v,e,h⟩:=sq h
 refine FE E n g A (.sc (.bool v)) f (hf v e) ?_
 cases v<;>simp_all
variable {w : AV}
theorem yR (E:cX T P)(n:Nat)(c:wS (ab T P n s)=some w:=by kernel_rfl)(d:aV w=true:=by exact pv):SX P (RQ w) s:=UJ E n c d
variable {s' : St}
theorem yK (E:cX T P)(n:Nat)(c:List (List Nat))(ids:List Nat)(q:SX P (RQ v) s')(d:aV v=true:=by exact pv)(e:lJ (ab T P n s)=true:=by kernel_rfl)(h:qY c ids (ab T P n s)=s' := by kernel_rfl):SX P (RQ v) s:=
 It E (Is d) n c ids e h q
theorem yF (E:cX T P){f:Nat}{args:List AV}(h:SX P (RQ w) (St.start T f args ag.empty))(ha:cG args=true:=by exact pl)(c:aV w=true:=by exact pv)(S:ag):fY P f args S fun r d=>r=.ret w∧d=S:=
 EP E ha c h S
def aj2 (S:ag)(nx:Nat)(ids:List Nat)(os:List aO):Prop:=S.nx=nx∧Nat.ble S.lim S.nx=true∧ids.Nodup∧xg S ids os
theorem Mc {S:ag}:∀ {ids:List Nat} {os:List aO},ids.map S.get=os.map some→ids.all (Nat.ble S.lim)=true→xg S ids os
 | [],[],_,_=>trivial
 | a::r,o::l,h,k=>by
   simp only[dH,List.cons.injEq] at h
   simp only[nB,aY] at k
   exact⟨⟨h.1,k.1⟩,Mc h.2 k.2⟩
 | [],_::_,h,_=>by simp at h
 | _::_,[],h,_=>by simp at h
variable {S : ag}
theorem wO {nx:Nat}{ids:List Nat}{os:List aO}(h1:S.nx=nx:=by kernel_rfl)(h2:Nat.ble S.lim S.nx=true:=by kernel_rfl)(h3:ids.Nodup:=by decide)(h4:ids.map S.get=os.map some:=by kernel_rfl)(c:ids.all (Nat.ble S.lim)=true:=by kernel_rfl):aj2 S nx ids os:=
 ⟨h1,h2,h3,Mc h4 c⟩
theorem yG (E:cX T P)(n:Nat){r:ag→ag}(d:fY P g A (N1 (ab T P n s)) fun x c=>x=.ret v∧c=r (N1 (ab T P n s)))(q:SX P Q (Fg v r (ab T P n s)))(h:ZV T P (ab T P n s)=some (g,A):=by kernel_rfl):SX P Q s:=
 YE E n g A v r h d q
theorem ZZ (E:cX T P)(n:Nat){r:ag→ag}(d:fY P g A (Rg (ab T P n s)) fun x c=>x=.ret v∧c=r (Rg (ab T P n s)))(q:SX P Q (Tw v r (ab T P n s)))(h:ZW T P (ab T P n s)=some (g,A):=by kernel_rfl):SX P Q s:=
 VT E n g A v r h d q
variable {kp : List Nat} {o o' : aO}
theorem akI (h:uj S kp o o' := by
 repeat' first | exact uj.df | exact vy.nil | exact Zm.nil | refine vy.cons ?_ ?_ | refine Zm.cons ?_ ?_ | exact lP.Iv rfl | exact lP.Da rfl | exact lP.Iw rfl | exact lP.ZD rfl rfl | (refine lP.ZD rfl ?_;first | (simp<;>fail) | omega | (simp;omega)) | (refine lP.pure ?_;simp[aV,cG,dA,cu,-List.map_append,-List.map_drop,-List.map_take,-List.map_set,-List.map_replicate]<;>fail) | refine uj.WT (fun _=>cu (by simp) _) ?_ | (refine uj.alP ?_;simp[aV,cG,dA,cu,-List.map_append,-List.map_drop,-List.map_take,-List.map_set,-List.map_replicate]<;>fail) | refine uj.agu ?_ | refine lP.aak ?_ | refine lP.aug ?_ ?_ | refine YG (Zm.spec ?_) (by kernel_rfl) | refine Pq ?_ | refine uj.auj (by simp) (fun _=>cu (by simp) _) rfl ?_ | exact uj.asN rfl | (refine uj.asN (IU (fun _=>?_) (fun _=>?_) _)<;>simp[aV,cG,dA,cu,-List.map_append,-List.map_drop,-List.map_take,-List.map_set,-List.map_replicate]<;>fail)):uj S kp o o' := h
variable {i : Nat}
theorem us {r:List (Option aO)}(t:kz S kp (i+1) r)(e:S.get i=some o:=by kernel_rfl)(f:uj S kp o o:=by exact akI):kz S kp i (some o::r):=Gf e f t
theorem uo {r:List (Option aO)}(o:aO)(t:kz S kp (i+1) r)(e:S.get i=some o:=by kernel_rfl)(f:uj S kp o o' := by exact akI):kz S kp i (some o' :: r):=Gf e f t
theorem uT {r:List (Option aO)}(h:kz S kp i r:=by repeat first | exact iA | refine us ?_):kz S kp i r:=h
theorem ua {id:Nat}{l:List Nat}{r:List aO}(o:aO)(t:pj S kp l r)(e:S.get id=some o:=by kernel_rfl)(f:uj S kp o o' := by exact akI):pj S kp (id::l) (o' :: r):=Pp e f t
variable {k : Nat} {v' : AV} {jz : List (Option aO)} {add : List aO}
theorem asQ (E:cX T P)(n:Nat)(v:AV)(kp:List Nat)(hf:lP (BT (ab T P n s)) kp v v')(hu:kz (BT (ab T P n s)) kp 0 jz)(ha:pj (BT (ab T P n s)) kp (kp.drop k) add)(h:wS (ab T P n s)=some v:=by kernel_rfl)(c:zr k add.length kp=true:=by kernel_rfl):SX P (RG k v' jz add) s:=aev E n kp h c hf hu ha
theorem aun (E:cX T P)(n:Nat)(v:AV)(kp:List Nat)(hf:lP (BT (ab T P n s)) kp v v')(hu:kz (BT (ab T P n s)) kp 0 jz)(ha:pj (BT (ab T P n s)) kp (kp.drop k) add)(h:W6 (ab T P n s)=some v:=by kernel_rfl)(c:zr k add.length kp=true:=by kernel_rfl):SX P (Zl false k v' jz add) s:=aew E n kp h c hf hu ha
theorem auo (E:cX T P)(n:Nat){r:ag→ag}(d:fY P g A (j5 (ab T P n s)) fun x c=>x=Re false v∧c=r (j5 (ab T P n s)))(q:SX P Q (W7 v r (ab T P n s)))(h:Jd T P (ab T P n s)=some (g,A):=by kernel_rfl)(e:C9 (ab T P n s)=true:=by kernel_rfl):SX P Q s:=YF E n g A v r h e d q
theorem aup (E:cX T P)(n:Nat)(bs:List Nat)(v:AV)(kp:List Nat)(hf:lP (j5 (ab T P n s)) kp v v')(hu:kz (j5 (ab T P n s)) kp 0 jz)(ha:pj (j5 (ab T P n s)) kp (kp.drop k) add)(c:He (ab T P n s)=some (tB P (afb (ab T P n s)) bs (RG k v' jz add)):=by kernel_rfl)(d:aj1 (ab T P n s)=[.uJ bs]:=by kernel_rfl)(e:Qp (ab T P n s)=true:=by kernel_rfl)(h:aal P (ab T P n s)=some v:=by kernel_rfl)(f:zr k add.length kp=true:=by kernel_rfl):SX P (RG k v' jz add) s:=YL E n kp c d e h f hf hu ha
variable {a : Nat}
theorem afD (E:cX T P)(d:vq a Q)(n:Nat)(c:List (List Nat))(ids:List Nat)(q:SX P Q s')(e:lJ (ab T P n s)=true:=by kernel_rfl)(h:qY c ids (ab T P n s)=s' := by kernel_rfl):SX P Q s:=
 It E d n c ids e h q
theorem auq (E:cX T P)(d:vq a Q)(n:Nat)(c:List (List Nat))(ids:List Nat)(bs:List Nat)(q:SX P Q s')(e:tK (ab T P n s)=true:=by kernel_rfl)(hb:DW (ab T P n s)=some (tB P (Ix (ab T P n s)) bs Q):=by kernel_rfl)(h:qY c ids (ab T P n s)=s' := by kernel_rfl):SX P Q s:=aeA E d n c ids bs e hb h q
theorem asR (E:cX T P)(j:vq a Q)(n:Nat)(f:List (List Nat))(ids:List Nat)(d:List (Nat×Nat))(N nx:Nat){c:St}{ls:List (List (Nat×AV))}{l:List (Nat×aO)}(e:List (List (Nat×AV)))(l2:List (Nat×aO))(m:SX P Q (jB c ls (pg N l)))(q:lJ (ab T P n s)=true:=by kernel_rfl)(h:qY f ids (ab T P n s)=jB c e (pg nx l2):=by kernel_rfl)(r:(w8 d N nx [] []&&d.all (fun p=>Nat.ble a p.1)&&Nat.ble a N)=true:=by kernel_rfl)(t:zg (kK d N nx) c=true:=by kernel_rfl)(u:Nat.beq ls.length (wR c)=true:=by kernel_rfl)(y:mO l2=true:=by kernel_rfl)(hs:e=ls.map (jC (kK d N nx)):=by simp[jC,AV.aX,eG,mV,aV,cu,EO,AX,-List.cons_append,-List.nil_append,-List.singleton_append,-List.map_append,-List.map_drop,-List.map_take,-List.map_set,-List.map_replicate]<;>omega)(z:l2=vw (kK d N nx) l:=by simp[vw,te,vJ,tf,tg,th,tj,pD,pC,ES,QL,ti,tc,mc,jC,AV.aX,eG,mV,aV,cu,EO,AX,aA,gB,encS,-List.cons_append,-List.nil_append,-List.singleton_append,-List.map_append,-List.map_drop,-List.map_take,-List.map_set,-List.map_replicate]<;>omega):SX P Q s:=
 Oy E j n f ids d N nx q h r t u y hs z m
end
def SY (_:FT)(P:Program){R:Type}(Q:R→gL→ag→Prop)(s:St)(e:Option R):Prop:=∀ r,e=some r→SX P (Q r) s
class EK (P : Program) (T : outParam FT) : Prop where
 ok : cX T P
variable {α : Type}
noncomputable def Z0 (a b:α):Option α:=open Classical in if a=b then some a else none
theorem Md {a b r:α}(h:Z0 a b=some r):b=r∧a=r:=by
 unfold Z0 at h
 split at h
 all_goals simp_all
theorem asS (f:Func){a b:St}(h1 : @St.rec (fun _=>Option Func) (fun fn F S k=>some fn) (fun _ _=>none) (fun _ _=>none) (fun _ _ _=>none) (fun _=>none) a=some f:=by kernel_rfl)(h2 : @St.rec (fun _=>Option Func) (fun fn F S k=>some fn) (fun _ _=>none) (fun _ _=>none) (fun _ _ _=>none) (fun _=>none) b=some f:=by kernel_rfl)(h3 : @St.rec (fun _=>Option ae) (fun fn F S k=>some F) (fun _ _=>none) (fun _ _=>none) (fun _ _ _=>none) (fun _=>none) a=@St.rec (fun _=>Option ae) (fun fn F S k=>some F) (fun _ _=>none) (fun _ _=>none) (fun _ _ _=>none) (fun _=>none) b:=by kernel_rfl)(h4 : @St.rec (fun _=>Option ag) (fun fn F S k=>some S) (fun _ _=>none) (fun _ _=>none) (fun _ _ _=>none) (fun _=>none) a=@St.rec (fun _=>Option ag) (fun fn F S k=>some S) (fun _ _=>none) (fun _ _=>none) (fun _ _ _=>none) (fun _=>none) b:=by kernel_rfl)
  (d : @St.rec (fun _=>Option cH) (fun fn F S k=>some k) (fun _ _=>none) (fun _ _=>none) (fun _ _ _=>none) (fun _=>none) a=@St.rec (fun _=>Option cH) (fun fn F S k=>some k) (fun _ _=>none) (fun _ _=>none) (fun _ _ _=>none) (fun _=>none) b:=by kernel_rfl):a=b:=by
 cases a<;>cases b<;>simp_all
class Ec (P : Program) (α : Type) where
 enc : α → AV
 cells : α → List AV
 t : Nat
 el : Nat
 m : Nat
 cs : CS enc cells m
 ce : ∀ x, (enc x).cells.all eI = true
 h1 : P.underlying t = some (.slice el)
 h2 : tw P el = some m
 h3 : Lp P t el m = true
 h4 : Lq P t = true
 pu : ∀ x, aV (enc x) = true
abbrev FD (P:Program)(g:Nat)(A:List AV)(v:AV):Prop:=∀ S,fY P g A S fun a d=>a=.ret v∧d=S
variable {β : Type}
abbrev LF (P:Program)(F:Option β)(g:Nat)(A:List AV)(V:β→AV):Prop:=∀ v,F=some v→FD P g A (V v)
abbrev LH (P:Program)(F:Option β)(V:β→AV)(s:St):Prop:=∀ r,F=some r→SX P (RQ (V r)) s
abbrev NM := Nat→Nat
abbrev TC := List AV×List aO
abbrev TB := AV×List (Option aO)×List aO
abbrev TP := Bool×AV×List (Option aO)×List aO
abbrev TL := List (List (Nat×AV))×List (Nat×aO)
@[simp] def sm (l:List aO):List (Option aO):=l.map some
instance : Std.ToStream St St := ⟨id⟩
instance : Std.ToStream (NM → TC) (NM → TC) := ⟨id⟩
instance : Std.ToStream (NM → TB) (NM → TB) := ⟨id⟩
instance : Std.ToStream (NM → TP) (NM → TP) := ⟨id⟩
instance {α β γ : Type} [Inhabited α] [Std.ToStream β γ] : Std.ToStream (α → β) γ := ⟨fun f => Std.ToStream.toStream (f default)⟩
abbrev dz [Std.ToStream α β] (x:α):β:=Std.ToStream.toStream x
noncomputable def fZ (c:St)(N:Nat)(L:NM→TL):St:=jB c (L id).1 (pg N (L id).2)
def Ao (k:Nat)(B:NM→TB):gL→ag→Prop:=RG k (B id).1 (B id).2.1 (B id).2.2
noncomputable def B2 (k:Nat)(B:NM→TB)(ids:List Nat)(nx:Nat)(S:ag):ag:=B0 (sr S (ids.zip ((B (tz (ids.take k) nx)).2.1++List.replicate (ids.length-k) none))) (B (tz (ids.take k) nx)).2.2
def alS (P:Program)(f k:Nat)(C:NM→TC)(B:NM→TB):Prop:=∀(S:ag) (nx:Nat) (ids:List Nat),aj2 S nx ids (C (tz ids nx)).2 →
 fY P f (C (tz ids nx)).1 S fun a d=>a=.ret (B (tz (ids.take k) nx)).1∧d=B2 k B ids nx S
def Ap (k:Nat)(B:NM→TP):gL→ag→Prop:=Zl (B id).1 k (B id).2.1 (B id).2.2.1 (B id).2.2.2
noncomputable def W9 (k:Nat)(B:NM→TP)(ids:List Nat)(nx:Nat)(S:ag):ag:=B0 (sr S (ids.zip ((B (tz (ids.take k) nx)).2.2.1++List.replicate (ids.length-k) none))) (B (tz (ids.take k) nx)).2.2.2
def agy (P:Program)(f k:Nat)(C:NM→TC)(B:NM→TP):Prop:=∀(S:ag) (nx:Nat) (ids:List Nat),aj2 S nx ids (C (tz ids nx)).2 →
 fY P f (C (tz ids nx)).1 S fun a d=>a=Re (B (tz (ids.take k) nx)).1 (B (tz (ids.take k) nx)).2.1∧d=W9 k B ids nx S
abbrev LJ (P:Program)(F:Option β)(k:Nat)(B:β→NM→TB)(s:St):Prop:=∀ r,F=some r→SX P (Ao k (B r)) s
abbrev LP (P:Program)(F:Option β)(k:Nat)(B:β→NM→TP)(s:St):Prop:=∀ r,F=some r→SX P (Ap k (B r)) s
abbrev LG (P:Program)(F:Option β)(f k:Nat)(C:NM→TC)(B:β→NM→TB):Prop:=∀ r,F=some r→alS P f k C (B r)
abbrev afd (P:Program)(F:Option β)(f k:Nat)(C:NM→TC)(B:β→NM→TP):Prop:=∀ r,F=some r→agy P f k C (B r)
noncomputable def alT : Bool→AV→(ag→ag)→St→St
 | true,v,r,s=>Fg v r s
 | false,v,r,s=>W7 v r s
variable {k : Nat}
theorem qk {B:NM→TB}(h:(B id).2.1.length=k:=by first | rfl | (simp;done) | (simp;split<;>rfl)):vq k (Ao k B):=ZE h
theorem qp {B:NM→TP}(h:(B id).2.2.1.length=k:=by first | rfl | (simp;done) | (simp;split<;>rfl)):vq k (Ap k B):=ZE h
theorem rq {v:AV}(h:aV v=true:=by exact pv):vq 0 (RQ v):=Is h
section
variable {T : FT} {P : Program} {s : St} {α β R : Type} {Q : R → gL → ag → Prop} [K : EK P T]
theorem s0 : SY T P Q s (none:Option R):=fun _ h=>by cases h
variable {s' : St}
theorem sT {e:Option R}(f:∀ {Q:gL→ag→Prop},SX P Q s' → SX P Q s)(q:SY T P Q s' e):SY T P Q s e:=fun r h=>f (q r h)
theorem sE {x:R}(f:SX P (Q x) s):SY T P Q s (some x):=fun _ h=>by cases h;exact f
theorem sI (n:Nat){k:IntKind}{x:Int}{f:Option R}(q:SY T P Q (ak (.sc (.int k x)) none (ab T P n s)) f)(a:NU P (ab T P n s)=some (.sc (.int k (k.wrap x))):=by kernel_rfl) :
 SY T P Q s (if cy k x then f else none):=fun _ h=>yI K.ok n h (fun _ h=>q _ h) a
variable {b : Bool}
theorem sB (n:Nat){t f:Option R}(a:SY T P Q (ak (.sc (.bool true)) none (ab T P n s)) t)(d:SY T P Q (ak (.sc (.bool false)) none (ab T P n s)) f)(e:NU P (ab T P n s)=some (.sc (.bool b)):=by kernel_rfl):SY T P Q s (if b then t else f):=fun _ h=>yB K.ok n h (fun _ h=>a _ h) (fun _ h=>d _ h) e
theorem WL (n:Nat){t f:Option R}(a:SY T P Q (eH (fun S=>.val (.sc (.bool true)) S) (ab T P n s)) t)(d:SY T P Q (eH (fun S=>.val (.sc (.bool false)) S) (ab T P n s)) f)(e:yH P (ab T P n s)=some (.val (.sc (.bool b)) (fe (ab T P n s))):=by kernel_rfl)(j:j7 (.val (.sc (.bool b)) (fe (ab T P n s))) (ab T P n s)=true:=by kernel_rfl):SY T P Q s (if b then t else f):=fun _ h=>aul K.ok n h (fun _ h=>a _ h) (fun _ h=>d _ h) e j
variable {i : Int}
theorem sX [C:Ec P α] (n:Nat) {l:List α} {f:α→Option R} (q:∀ x,SY T P Q (ak (.dO (C.cells x)) none (ab T P n s)) (f x)) (a:NU P (ab T P n s)=dQ P ag.empty C.t (.lit (l.map C.enc)) (.sc (.int .i64 i)):=by kernel_rfl):SY T P Q s (bQ l i>>=f):=
 fun _ h=>yX K.ok n C.t C.el C.cs h (fun x _ h=>q x _ h) a C.h1 C.h2
variable {g : Nat} {A : List AV}
theorem sC (n:Nat){F:Option β}{V:β→AV}{f:β→Option R}(hf:LF P F g A V)(q:∀ v,SY T P Q (ak (V v) none (ab T P n s)) (f v))(a:Jd T P (ab T P n s)=some (g,A):=by kernel_rfl):SY T P Q s (F>>=f):=fun _ h=>yC K.ok n hf h (fun v h=>q v _ h) a
theorem fI (n:Nat){F:Option Bool}{a b:Option R}(hf:LF P F g A fun v=>.sc (.bool v))(d:SY T P Q (ak (.sc (.bool true)) none (ab T P n s)) a)(e:SY T P Q (ak (.sc (.bool false)) none (ab T P n s)) b)(f:Jd T P (ab T P n s)=some (g,A):=by kernel_rfl) :
 SY T P Q s (F>>=fun v=>if v then a else b):=fun _ h=>aum K.ok n hf h (d _) (e _) f
theorem sL [C:Ec P α] (n:Nat) (l:List α) {e:Option R} (q:SY T P Q (ak (.sc (.int .i64 l.length)) none (ab T P n s)) e)
 (a:NU P (ab T P n s)=some (.sc (.int .i64 ((l.map C.enc).length:Nat))):=by kernel_rfl):SY T P Q s e:=fun _ h=>wT K.ok n _ _ a (JU C.enc l) (q _ h)
theorem sR (n:Nat){V:R→AV}{x:R}(a:wS (ab T P n s)=some (V x):=by kernel_rfl)(d:aV (V x)=true:=by exact pv):SY T P (fun r=>RQ (V r)) s (some x):=
 fun _ h=>by cases h;exact yR K.ok n a d
theorem Hb [C:Ec P α] (n d:Nat) {l:List α} (a:wS (ab T P n s)=some (.ai d 0 l.length):=by kernel_rfl) (e:(BT (ab T P n s)).get d=some (.arr C.m (l.map C.enc)):=by kernel_rfl) :
  SY T P (fun r:List α=>RQ (.lit (r.map C.enc))) s (some l):=
 sE (Q:=fun r:List α=>RQ (.lit (r.map C.enc))) (bN K.ok n a (Fz.lT e (by simp) (dA C.pu _)))
theorem Td (n:Nat){enc:α→AV}(a:wS (ab T P n s)=some .an:=by kernel_rfl):SY T P (fun r:List α=>RQ (.lit (r.map enc))) s (some ([]:List α)):=
 sE (Q:=fun r:List α=>RQ (.lit (r.map enc))) (bN K.ok n a .an)
theorem sK (n:Nat)(a:List (List Nat))(ids:List Nat){V:R→AV}{e:Option R}(q:LH P e V s')(d:∀ r,aV (V r)=true:=by intro r;exact pv)(f:lJ (ab T P n s)=true:=by kernel_rfl)(h:qY a ids (ab T P n s)=s' := by kernel_rfl) :
 SY T P (fun r=>RQ (V r)) s e:=fun _ j=>yK K.ok n a ids (q _ j) (d _) f h
theorem wi (n:Nat)(a:List (List Nat))(ids:List Nat){B:R→NM→TB}{e:Option R}(q:LJ P e k B s')(d:∀ r,vq k (Ao k (B r)):=by intro r;exact qk)(f:lJ (ab T P n s)=true:=by kernel_rfl)(h:qY a ids (ab T P n s)=s' := by kernel_rfl) :
 SY T P (fun r=>Ao k (B r)) s e:=fun _ j=>afD K.ok (d _) n a ids (q _ j) f h
theorem akJ (n:Nat)(a:List (List Nat))(ids:List Nat){B:R→NM→TP}{e:Option R}(q:LP P e k B s')(d:∀ r,vq k (Ap k (B r)):=by intro r;exact qp)(f:lJ (ab T P n s)=true:=by kernel_rfl)(h:qY a ids (ab T P n s)=s' := by kernel_rfl) :
 SY T P (fun r=>Ap k (B r)) s e:=fun _ j=>afD K.ok (d _) n a ids (q _ j) f h
variable {N : Nat} {c : St} {L : NM → TL}
theorem akK {T:FT}{P:Program}{Q:gL→ag→Prop}{s:St}(E:cX T P){a:Nat}(j:vq a Q)(n:Nat)(e:List (List Nat))(ids:List Nat)(d:List (Nat×Nat))(nx:Nat)(l:SX P Q (fZ c N L))(m:lJ (ab T P n s)=true)(h:qY e ids (ab T P n s)=jB c (L (kK d N nx)).1 (pg nx (L (kK d N nx)).2))(o:(w8 d N nx [] []&&d.all (fun p=>Nat.ble a p.1)&&Nat.ble a N)=true)(q:zg (kK d N nx) c=true)(r:Nat.beq (L id).1.length (wR c)=true)(t:mO (L (kK d N nx)).2=true)(f:∀ σ:NM,(L σ).1=(L id).1.map (jC σ)∧(L σ).2=vw σ (L id).2):SX P Q s:=
 Oy E j n e ids d N nx m h o q r t (f _).1 (f _).2 l
section
variable {T : FT} {P : Program} {Q : gL → ag → Prop} {s : St}
theorem aur (E:cX T P){a:Nat}(j:vq a Q)(n:Nat)(f:List (List Nat))(ids:List Nat)(d:List (Nat×Nat))(nx:Nat)(e:List (List (Nat×AV)))(l2:List (Nat×aO))(l:SX P Q (fZ c N L))(m:lJ (ab T P n s)=true:=by kernel_rfl)(h:qY f ids (ab T P n s)=jB c e (pg nx l2):=by kernel_rfl)(o:(w8 d N nx [] []&&d.all (fun p=>Nat.ble a p.1)&&Nat.ble a N)=true:=by kernel_rfl)(q:zg (kK d N nx) c=true:=by kernel_rfl)(r:Nat.beq (L id).1.length (wR c)=true:=by kernel_rfl)(t:mO l2=true:=by kernel_rfl)(hs:e=(L id).1.map (jC (kK d N nx)):=by simp[jC,AV.aX,eG,mV,aV,cu,EO,AX,-List.cons_append,-List.nil_append,-List.singleton_append,-List.map_append,-List.map_drop,-List.map_take,-List.map_set,-List.map_replicate]<;>omega)(u:l2=vw (kK d N nx) (L id).2:=by simp[vw,te,vJ,tf,tg,th,tj,pD,pC,ES,ti,tc,mc,jC,AV.aX,eG,mV,aV,cu,EO,AX,aA,gB,encS,-List.cons_append,-List.nil_append,-List.singleton_append,-List.map_append,-List.map_drop,-List.map_take,-List.map_set,-List.map_replicate]<;>omega):SX P Q s:=
 Oy E j n f ids d N nx m h o q r t hs u l
theorem aus (E:cX T P){a:Nat}(l:vq a Q)(n:Nat)(f:List (List Nat))(ids:List Nat)(d:List (Nat×Nat))(nx:Nat)(bs:List Nat)(m:SX P Q (fZ c N L))(o:tK (ab T P n s)=true:=by kernel_rfl)(hb:DW (ab T P n s)=some (tB P (Ix (ab T P n s)) bs Q):=by kernel_rfl)(e:DW c=some (tB P (Ix (ab T P n s)) bs Q):=by kernel_rfl)(h:qY f ids (ab T P n s)=jB c (L (kK d N nx)).1 (pg nx (L (kK d N nx)).2):=by kernel_rfl)(q:(w8 d N nx [] []&&d.all (fun p=>Nat.ble a p.1)&&Nat.ble a N)=true:=by kernel_rfl)(r:FH (kK d N nx) c=true:=by kernel_rfl)(t:Nat.beq (L id).1.length (wR c)=true:=by kernel_rfl)(u:mO (L (kK d N nx)).2=true:=by kernel_rfl)(j:∀ σ:NM,(L σ).1=(L id).1.map (jC σ)∧(L σ).2=vw σ (L id).2:=by
  intro σ;simp[vw,te,vJ,tf,tg,th,tj,pD,pC,ES,ti,tc,mc,jC,AV.aX,eG,mV,aV,cu,aA,gB,encS,-List.map_append,-List.map_drop,-List.map_take,-List.map_set,-List.map_replicate]):SX P Q s:=
 YK E l n f ids d N nx bs o hb e h q r t u (j _).1 (j _).2 m
end
theorem akL (h:∀ σ:NM,(L σ).1=(L id).1.map (jC σ)∧(L σ).2=vw σ (L id).2:=by
  intro σ;simp[vw,QL,te,vJ,tf,tg,th,tj,pD,pC,ES,ti,tc,mc,jC,AV.aX,eG,mV,aV,cu,aA,gB,encS,-List.map_append,-List.map_drop,-List.map_take,-List.map_set,-List.map_replicate]) :
 ∀ σ:NM,(L σ).1=(L id).1.map (jC σ)∧(L σ).2=vw σ (L id).2:=h
theorem sM (n:Nat)(d:List (List Nat))(ids:List Nat)(a:List (Nat×Nat))(nx:Nat){V:R→AV}{e:Option R}(q:LH P e V (fZ c N L))(f:∀ r,aV (V r)=true:=by intro r;exact pv)(j:lJ (ab T P n s)=true:=by kernel_rfl)(h:qY d ids (ab T P n s)=jB c (L (kK a N nx)).1 (pg nx (L (kK a N nx)).2):=by kernel_rfl)(l:(w8 a N nx [] []&&a.all (fun p=>Nat.ble 0 p.1)&&Nat.ble 0 N)=true:=by kernel_rfl)(m:zg (kK a N nx) c=true:=by kernel_rfl)(o:Nat.beq (L id).1.length (wR c)=true:=by kernel_rfl)(t:mO (L (kK a N nx)).2=true:=by kernel_rfl)(u:∀ σ:NM,(L σ).1=(L id).1.map (jC σ)∧(L σ).2=vw σ (L id).2:=by exact akL):SY T P (fun r=>RQ (V r)) s e:=fun _ v=>akK K.ok (Is (f _)) n d ids a nx (q _ v) j h l m o t u
theorem Jf (n:Nat)(d:List (List Nat))(ids:List Nat)(a:List (Nat×Nat))(nx:Nat){B:R→NM→TB}{e:Option R}(q:LJ P e k B (fZ c N L))(f:∀ r,vq k (Ao k (B r)):=by intro r;exact qk)(j:lJ (ab T P n s)=true:=by kernel_rfl)(h:qY d ids (ab T P n s)=jB c (L (kK a N nx)).1 (pg nx (L (kK a N nx)).2):=by kernel_rfl)(l:(w8 a N nx [] []&&a.all (fun p=>Nat.ble k p.1)&&Nat.ble k N)=true:=by kernel_rfl)(m:zg (kK a N nx) c=true:=by kernel_rfl)(o:Nat.beq (L id).1.length (wR c)=true:=by kernel_rfl)(t:mO (L (kK a N nx)).2=true:=by kernel_rfl)(u:∀ σ:NM,(L σ).1=(L id).1.map (jC σ)∧(L σ).2=vw σ (L id).2:=by exact akL):SY T P (fun r=>Ao k (B r)) s e:=fun _ v=>akK K.ok (f _) n d ids a nx (q _ v) j h l m o t u
theorem akM (n:Nat)(d:List (List Nat))(ids:List Nat)(a:List (Nat×Nat))(nx:Nat){B:R→NM→TP}{e:Option R}(q:LP P e k B (fZ c N L))(f:∀ r,vq k (Ap k (B r)):=by intro r;exact qp)(j:lJ (ab T P n s)=true:=by kernel_rfl)(h:qY d ids (ab T P n s)=jB c (L (kK a N nx)).1 (pg nx (L (kK a N nx)).2):=by kernel_rfl)(l:(w8 a N nx [] []&&a.all (fun p=>Nat.ble k p.1)&&Nat.ble k N)=true:=by kernel_rfl)(m:zg (kK a N nx) c=true:=by kernel_rfl)(o:Nat.beq (L id).1.length (wR c)=true:=by kernel_rfl)(t:mO (L (kK a N nx)).2=true:=by kernel_rfl)(u:∀ σ:NM,(L σ).1=(L id).1.map (jC σ)∧(L σ).2=vw σ (L id).2:=by exact akL):SY T P (fun r=>Ap k (B r)) s e:=fun _ v=>akK K.ok (f _) n d ids a nx (q _ v) j h l m o t u
theorem sF {f:Nat}{args:List AV}{V:R→AV}{e:Option R}(h:SY T P (fun r=>RQ (V r)) (St.start T f args ag.empty) e)(ha:cG args=true:=by exact pl)(a:∀ r,aV (V r)=true:=by intro r;exact pv):LF P e f args V:=
 fun r d S=>yF K.ok (h _ d) ha (a r) S
theorem sG {c:Prop} [Decidable c] {f:Option R} (q:c→SY T P Q s f):SY T P Q s (if decide c then f else none):=
 fun _ h=>q (of_decide_eq_true (WI h).1) _ (WI h).2
theorem sS {t f:Option R}(a:b=true→SY T P Q s t)(d:b=false→SY T P Q s f):SY T P Q s (if b then t else f):=by
 cases b<;>simp_all
theorem DN (n t el:Nat){enc:α→AV}{cells:α→List AV}{m:Nat}(a:CS enc cells m){l:List α}{f:α→Option R}(q:∀ x,bQ l i=some x→SY T P Q (ak (.dO (cells x)) none (ab T P n s)) (f x))(d:NU P (ab T P n s)=dQ P ag.empty t (.lit (l.map enc)) (.sc (.int .i64 i)):=by kernel_rfl)(h1:P.underlying t=some (.slice el):=by kernel_rfl)(h2:tw P el=some m:=by kernel_rfl):SY T P Q s (bQ l i>>=f):=
 fun _ h=>yX K.ok n t el a h (fun x e h=>q x e _ h) d h1 h2
theorem aut (n t:Nat){a:Int}{F:Int→Option R}(q:∀ k:Nat,k<21→SY T P Q (W8 t (.sc (.int .i64 k)) (ab T P n s)) (F k))(h:OC t (ab T P n s)=some (.sc (.int .i64 a)):=by kernel_rfl):SY T P Q s (if decide (0≤a∧a≤20) then F a else none):=
 sG fun c=>by
  have e:a=((a.toNat:Nat):Int):=by omega
  rw[e]
  exact sT (aeF K.ok n t e h) (q a.toNat (by omega))
theorem aj3 {s1 s2:St}{t f:Option R}(g:∀ {Q:gL→ag→Prop},(b=true→SX P Q s1)→(b=false→SX P Q s2)→SX P Q s)(a:SY T P Q s1 t)(d:SY T P Q s2 f):SY T P Q s (if b then t else f):=
 fun r h=>g (fun c=>a r (Zk c h)) (fun c=>d r (ZU c h))
theorem akN (n id m since:Nat){l:List (Int×Int)}{sn:List Nat}{e:Option R}{F:Nat→Int×Int→Option R}(a:SY T P Q (eH (fun S=>.val (.bO [.sc (.bool false)]) S) (ab T P n s)) e)
  (d:∀ i x,l[i]? = some x→SY T P Q (eH (fun S=>.val (.bO [.sc (.bool true),aA .i64 x.1,aA .i64 x.2]) (S.set id (.mi m since (sn++[i])))) (ab T P n s)) (F i x))
  (j:WK (ab T P n s)=some (.ptr id 0 0):=by kernel_rfl) (h1:(j5 (ab T P n s)).get id=some (.mi m since sn):=by kernel_rfl) (h2:(j5 (ab T P n s)).get m=some (.mp (l.map (cg (aA .i64) (aA .i64)))):=by kernel_rfl)
  (hs:since=l.length:=by simp) (o:Nat.ble (j5 (ab T P n s)).lim id=true:=by kernel_rfl):SY T P Q s (B1 l sn e F):=
 fun _ h=>aeG K.ok n (f:=aA .i64) (g:=aA .i64) h j h1 h2 hs o (fun h=>a _ h) fun i x p h=>d i x p _ h
theorem akO (n id m since:Nat)(sn:List Nat)(i:Nat){l:List (Int×Int)}{x:Int×Int}{e:Option R}(hx:l[i]? = some x)(q:SY T P Q (eH (fun S=>.val (.bO [aA .i64 x.1,aA .i64 x.2]) S) (ab T P n s)) e)
  (a:yH P (ab T P n s)=ZY (fe (ab T P n s)) (.ptr id 0 0):=by kernel_rfl) (d:j7 (.val (.bO [aA .i64 x.1,aA .i64 x.2]) (fe (ab T P n s))) (ab T P n s)=true:=by kernel_rfl)
  (h1:(fe (ab T P n s)).get id=some (.mi m since (sn++[i])):=by kernel_rfl) (h2:(fe (ab T P n s)).get m=some (.mp (l.map (cg (aA .i64) (aA .i64)))):=by kernel_rfl) (hs:since=l.length:=by simp):SY T P Q s e:=
 sT (bF K.ok n (fun S=>ZY S (.ptr id 0 0)) (fun S=>.val (.bO [aA .i64 x.1,aA .i64 x.2]) S) a d (JH (f:=aA .i64) (g:=aA .i64) h1 h2 hs hx)) q
theorem aj4 {t f:Option R}(q:SY T P Q s t):SY T P Q s (if true then t else f):=by simp_all
theorem sf {t f:Option R}(q:SY T P Q s f):SY T P Q s (if false then t else f):=by simp_all
theorem N2 (n:Nat){a:ag→ag}{t f:Option R}(j:fY P g A (N1 (ab T P n s)) fun x d=>x=.ret (.sc (.bool b))∧d=a (N1 (ab T P n s)))(l:SY T P Q (Fg (.sc (.bool true)) a (ab T P n s)) t)(m:SY T P Q (Fg (.sc (.bool false)) a (ab T P n s)) f)(h:ZV T P (ab T P n s)=some (g,A):=by kernel_rfl):SY T P Q s (if b then t else f):=by
 cases b with
 | true=>exact fun _ e=>yG K.ok n j (l _ (by simpa using e)) h
 | false=>exact fun _ e=>yG K.ok n j (m _ (by simpa using e)) h
theorem akP (n t id:Nat){m:List (Int×Bool)}{x:Int}{a b:Option R}(h:SY T P Q (eH (fun S=>.val (.sc (.bool true)) S) (ab T P n s)) a)(j:SY T P Q (eH (fun S=>.val (.sc (.bool false)) S) (ab T P n s)) b)
  (f:yH P (ab T P n s)=Rf P (fe (ab T P n s)) t (.cR id) (.sc (.int .i64 x)) false:=by kernel_rfl) (l:j7 (.val (.sc (.bool true)) (fe (ab T P n s))) (ab T P n s)=true:=by kernel_rfl) (d:j7 (.val (.sc (.bool false)) (fe (ab T P n s))) (ab T P n s)=true:=by kernel_rfl)
  (o:Db P t=some (.i64,gB false):=by kernel_rfl) (p:(fe (ab T P n s)).get id=some (.mp (m.map (cg (aA .i64) gB))):=by kernel_rfl):SY T P Q s (if(iJ m x).getD false then a else b):=by
 have w:=Oz (x:=x) (g:=gB) (z0:=false) o p
 generalize (iJ m x).getD false=v at w
 cases v with
 | true=>exact fun _ e=>bF K.ok n (fun S=>Rf P S t (.cR id) (.sc (.int .i64 x)) false) _ f l w (h _ (by simpa using e))
 | false=>exact fun _ e=>bF K.ok n (fun S=>Rf P S t (.cR id) (.sc (.int .i64 x)) false) _ f d w (j _ (by simpa using e))
theorem asT (n t id:Nat){m:List (ByteArray×Bool)}{x:ByteArray}{a b:Option R}(h:SY T P Q (eH (fun S=>.val (.sc (.bool true)) S) (ab T P n s)) a)(j:SY T P Q (eH (fun S=>.val (.sc (.bool false)) S) (ab T P n s)) b)
  (f:yH P (ab T P n s)=Rf P (fe (ab T P n s)) t (.cR id) (.sc (.string x)) false:=by kernel_rfl) (l:j7 (.val (.sc (.bool true)) (fe (ab T P n s))) (ab T P n s)=true:=by kernel_rfl) (d:j7 (.val (.sc (.bool false)) (fe (ab T P n s))) (ab T P n s)=true:=by kernel_rfl)
  (o:Ch P t=some (gB false):=by kernel_rfl) (p:(fe (ab T P n s)).get id=some (.mp (m.map (cg encS gB))):=by kernel_rfl):SY T P Q s (if(tH m x).getD false then a else b):=by
 have w:=YM (x:=x) (g:=gB) (z0:=false) o p
 generalize (tH m x).getD false=v at w
 cases v with
 | true=>exact fun _ e=>bF K.ok n (fun S=>Rf P S t (.cR id) (.sc (.string x)) false) _ f l w (h _ (by simpa using e))
 | false=>exact fun _ e=>bF K.ok n (fun S=>Rf P S t (.cR id) (.sc (.string x)) false) _ f d w (j _ (by simpa using e))
theorem afe (n t id:Nat)(m:List (Int×Int))(x:Int){e:Option R}(q:SY T P Q (eH (fun S=>.val (.sc (.int .i64 ((iJ m x).getD 0))) S) (ab T P n s)) e)
  (a:yH P (ab T P n s)=Rf P (fe (ab T P n s)) t (.cR id) (.sc (.int .i64 x)) false:=by kernel_rfl) (d:j7 (.val (.sc (.int .i64 ((iJ m x).getD 0))) (fe (ab T P n s))) (ab T P n s)=true:=by kernel_rfl)
  (f:Db P t=some (.i64,aA .i64 0):=by kernel_rfl) (h:(fe (ab T P n s)).get id=some (.mp (m.map (cg (aA .i64) (aA .i64)))):=by kernel_rfl):SY T P Q s e:=
 sT (bF K.ok n (fun S=>Rf P S t (.cR id) (.sc (.int .i64 x)) false) (fun S=>.val (.sc (.int .i64 ((iJ m x).getD 0))) S) a d (Oz (x:=x) (g:=aA .i64) (z0:=0) f h)) q
theorem afE (n t id:Nat)(m:List (Int×Bool))(x:Int)(y:Bool){e:Option R}(q:SY T P Q (eH (fun S=>.skip (S.set id (.mp ((ky m x y).map (cg (aA .i64) gB))))) (ab T P n s)) e)
  (a:yH P (ab T P n s)=SW P (fe (ab T P n s)) t (.cR id) (.sc (.int .i64 x)) (.sc (.bool y)):=by kernel_rfl) (d:j7 (.skip ((fe (ab T P n s)).set id (.mp ((ky m x y).map (cg (aA .i64) gB))))) (ab T P n s)=true:=by kernel_rfl)
  (f:Db P t=some (.i64,gB false):=by kernel_rfl) (h:(fe (ab T P n s)).get id=some (.mp (m.map (cg (aA .i64) gB))):=by kernel_rfl) (j:Nat.ble (fe (ab T P n s)).lim id=true:=by kernel_rfl):SY T P Q s e:=
 sT (bF K.ok n (fun S=>SW P S t (.cR id) (.sc (.int .i64 x)) (.sc (.bool y))) (fun S=>.skip (S.set id (.mp ((ky m x y).map (cg (aA .i64) gB))))) a d (JG (g:=gB) (y:=y) f h j)) q
theorem akQ (n t id:Nat)(m:List (Int×Int))(x y:Int){e:Option R}(q:SY T P Q (eH (fun S=>.skip (S.set id (.mp ((ky m x y).map (cg (aA .i64) (aA .i64)))))) (ab T P n s)) e)
  (a:yH P (ab T P n s)=SW P (fe (ab T P n s)) t (.cR id) (.sc (.int .i64 x)) (.sc (.int .i64 y)):=by kernel_rfl) (d:j7 (.skip ((fe (ab T P n s)).set id (.mp ((ky m x y).map (cg (aA .i64) (aA .i64)))))) (ab T P n s)=true:=by kernel_rfl)
  (f:Db P t=some (.i64,aA .i64 0):=by kernel_rfl) (h:(fe (ab T P n s)).get id=some (.mp (m.map (cg (aA .i64) (aA .i64)))):=by kernel_rfl) (j:Nat.ble (fe (ab T P n s)).lim id=true:=by kernel_rfl):SY T P Q s e:=
 sT (bF K.ok n (fun S=>SW P S t (.cR id) (.sc (.int .i64 x)) (.sc (.int .i64 y))) (fun S=>.skip (S.set id (.mp ((ky m x y).map (cg (aA .i64) (aA .i64)))))) a d (JG (g:=aA .i64) (y:=y) f h j)) q
theorem aj5 (n t id:Nat)(m:List (ByteArray×Bool))(x:ByteArray)(y:Bool){e:Option R}(q:SY T P Q (eH (fun S=>.skip (S.set id (.mp ((ss m x y).map (cg encS gB))))) (ab T P n s)) e)
  (a:yH P (ab T P n s)=SW P (fe (ab T P n s)) t (.cR id) (.sc (.string x)) (.sc (.bool y)):=by kernel_rfl) (d:j7 (.skip ((fe (ab T P n s)).set id (.mp ((ss m x y).map (cg encS gB))))) (ab T P n s)=true:=by kernel_rfl)
  (f:Ch P t=some (gB false):=by kernel_rfl) (h:(fe (ab T P n s)).get id=some (.mp (m.map (cg encS gB))):=by kernel_rfl) (j:Nat.ble (fe (ab T P n s)).lim id=true:=by kernel_rfl):SY T P Q s e:=
 sT (bF K.ok n (fun S=>SW P S t (.cR id) (.sc (.string x)) (.sc (.bool y))) (fun S=>.skip (S.set id (.mp ((ss m x y).map (cg encS gB))))) a d (YN (g:=gB) (y:=y) f h j)) q
theorem sO [C:Ec P α] (n:Nat) (l:List α) {a b:Option R} (d:SY T P Q (ak (.sc (.bool true)) none (ab T P n s)) a) (f:SY T P Q (ak (.sc (.bool false)) none (ab T P n s)) b)
   (h:aaj P (ab T P n s)=some (l.map C.enc):=by kernel_rfl) (hf:Qn (ab T P n s)=true:=by kernel_rfl):SY T P Q s (b>>=fun z=>if l.isEmpty then(a>>=Z0 z) else some z):=fun r e=>by
 obtain⟨z,hb,e⟩:=sq e
 refine QH K.ok n _ h hf (fun c=>d _ ?_) (f _ ?_)
 · have c:l.isEmpty=true:=by simpa using c
   obtain⟨w,ha,e⟩:=sq (Zk c e)
   rw[ha,(Md e).1]
 · rw[hb]
   cases c:l.isEmpty with
   | true=>
     obtain⟨w,ha,e⟩:=sq (Zk c e)
     rw[(Md e).2]
   | false=>exact ZU c e
theorem sV {F:Option β}{f:β→Option R}(q:∀ v,F=some v→SY T P Q s (f v)):SY T P Q s (F>>=f):=
 fun _ h=>let ⟨v,e,h⟩:=sq h;q v e _ h
variable {C : NM → TC}
theorem agz {T:FT}{P:Program}(E:cX T P)(m:Nat){f:Nat}{B:NM→TP}(h:SX P (Ap k B) (St.start T f (C id).1 (pg m (nr 0 (C id).2))))(hb:(∀ σ:NM,(B id).1=(B σ).1∧(B id).2.1.aX σ=(B σ).2.1∧(B id).2.2.1.map (Option.map (aO.aX σ))=(B σ).2.2.1∧(B id).2.2.2.map (aO.aX σ)=(B σ).2.2.2)∧(B id).2.2.1.length=k)(e:∀ σ:NM,eG σ (C id).1=(C σ).1∧(C id).2.map (aO.aX σ)=(C σ).2)(o:m=(C id).2.length)(j:Nat.ble k (C id).2.length=true):agy P f k C B:=by
 intro S nx ids p
 obtain⟨h1,h2,h3,h4⟩:=p
 obtain⟨d,q⟩:=hb
 subst h1
 subst o
 have n:ids.length=(C id).2.length:=by
  have r:∀ {ids:List Nat} {os:List aO},xg S ids os→ids.length=os.length:=by
   intro ids
   induction ids with
   | nil=>intro os h;cases os<;>simp_all[xg]
   | cons a l t=>intro os h;cases os with
     | nil=>simp[xg] at h
     | cons b m=>simp[t h.2]
  rw[r h4,←(e _).2,rf]
 have u:=gb j
 rw[←(d _).1]
 exact aex E (List.replicate (ids.length-k) none) h q j (by simp) (by simp;omega) S ids h2 h3 h4 (e _).2 (e _).1 (d _).2.1 (by rw[(d _).2.2.1]) (d _).2.2.2
theorem akR (h:∀ σ:NM,eG σ (C id).1=(C σ).1∧(C id).2.map (aO.aX σ)=(C σ).2:=by
  intro σ;simp[te,vJ,tf,tg,th,tj,pD,pC,AV.aX,eG,jC,tc,mc,mV,ti,aV,cu,-List.map_append,-List.map_drop,-List.map_take,-List.map_set,-List.map_replicate]) :
 ∀ σ:NM,eG σ (C id).1=(C σ).1∧(C id).2.map (aO.aX σ)=(C σ).2:=h
theorem bc {B:NM→TP}(h:∀ σ:NM,(B id).1=(B σ).1∧(B id).2.1.aX σ=(B σ).2.1∧(B id).2.2.1.map (Option.map (aO.aX σ))=(B σ).2.2.1∧(B id).2.2.2.map (aO.aX σ)=(B σ).2.2.2:=by
 intro σ;simp[te,vJ,tf,tg,th,tj,pD,pC,AV.aX,eG,jC,tc,mc,mV,ti,aV,cu,-List.map_append,-List.map_drop,-List.map_take,-List.map_set,-List.map_replicate])(a:(B id).2.2.1.length=k:=by rfl) :
 (∀ σ:NM,(B id).1=(B σ).1∧(B id).2.1.aX σ=(B σ).2.1∧(B id).2.2.1.map (Option.map (aO.aX σ))=(B σ).2.2.1∧(B id).2.2.2.map (aO.aX σ)=(B σ).2.2.2)∧(B id).2.2.1.length=k:=⟨h,a⟩
theorem bd {B:NM→TB}(h:∀ σ:NM,(B id).1.aX σ=(B σ).1∧(B id).2.1.map (Option.map (aO.aX σ))=(B σ).2.1∧(B id).2.2.map (aO.aX σ)=(B σ).2.2:=by
 intro σ;simp[te,vJ,tf,tg,th,tj,pD,pC,AV.aX,eG,jC,tc,mc,mV,ti,aV,cu,-List.map_append,-List.map_drop,-List.map_take,-List.map_set,-List.map_replicate])(a:(B id).2.1.length=k:=by rfl) :
 (∀ σ:NM,(B id).1.aX σ=(B σ).1∧(B id).2.1.map (Option.map (aO.aX σ))=(B σ).2.1∧(B id).2.2.map (aO.aX σ)=(B σ).2.2)∧(B id).2.1.length=k:=⟨h,a⟩
theorem asU (m:Nat){f:Nat}{B:R→NM→TP}{e:Option R}(h:SY T P (fun r=>Ap k (B r)) (St.start T f (C id).1 (pg m (nr 0 (C id).2))) e)(hb:∀ r,(∀ σ:NM,(B r id).1=(B r σ).1∧(B r id).2.1.aX σ=(B r σ).2.1∧(B r id).2.2.1.map (Option.map (aO.aX σ))=(B r σ).2.2.1∧(B r id).2.2.2.map (aO.aX σ)=(B r σ).2.2.2)∧(B r id).2.2.1.length=k:=by intro r;exact bc)(a:∀ σ:NM,eG σ (C id).1=(C σ).1∧(C id).2.map (aO.aX σ)=(C σ).2:=by exact akR)(d:m=(C id).2.length:=by rfl)(j:Nat.ble k (C id).2.length=true:=by kernel_rfl):afd P e f k C B:=
 fun r l=>agz K.ok m (h _ l) (hb r) a d j
theorem Qa (m:Nat){f:Nat}{B:R→NM→TB}{e:Option R}(h:SY T P (fun r=>Ao k (B r)) (St.start T f (C id).1 (pg m (nr 0 (C id).2))) e)(hb:∀ r,(∀ σ:NM,(B r id).1.aX σ=(B r σ).1∧(B r id).2.1.map (Option.map (aO.aX σ))=(B r σ).2.1∧(B r id).2.2.map (aO.aX σ)=(B r σ).2.2)∧(B r id).2.1.length=k:=by intro r;exact bd)(a:∀ σ:NM,eG σ (C id).1=(C σ).1∧(C id).2.map (aO.aX σ)=(C σ).2:=by exact akR)(d:m=(C id).2.length:=by rfl)(j:Nat.ble k (C id).2.length=true:=by kernel_rfl):LG P e f k C B:=
 fun r l=>agz (B:=fun σ=>(true,B r σ)) K.ok m (h _ l) ⟨fun σ=>⟨rfl,(hb r).1 σ⟩,(hb r).2⟩ a d j
theorem sQ (n nx:Nat)(ids:List Nat){B:β→NM→TB}{F:Option β}{f:β→Option R}(a:LG P F g k C B)(q:∀ v,SY T P Q (Fg (B v (tz (ids.take k) nx)).1 (B2 k (B v) ids nx) (ab T P n s)) (f v))(h:ZV T P (ab T P n s)=some (g,(C (tz ids nx)).1):=by kernel_rfl)(h1:(N1 (ab T P n s)).nx=nx:=by kernel_rfl)(h2:Nat.ble (N1 (ab T P n s)).lim (N1 (ab T P n s)).nx=true:=by kernel_rfl)(h3:ids.Nodup:=by decide)(h4:ids.map (N1 (ab T P n s)).get=(C (tz ids nx)).2.map some:=by kernel_rfl)(d:ids.all (Nat.ble (N1 (ab T P n s)).lim)=true:=by kernel_rfl):SY T P Q s (F>>=f):=
 sV fun v e=>fun _ j=>yG K.ok n (a v e _ nx ids (wO h1 h2 h3 h4 d)) (q v _ j) h
theorem YO {s:St}(h:C9 s=true):N1 s=j5 s:=by cases s<;>simp_all [C9]<;>rfl
theorem YP {T:FT}{P:Program}{s:St}(h:C9 s=true):ZV T P s=Jd T P s:=by cases s<;>simp_all [C9]<;>rfl
theorem sP (n nx:Nat)(ids:List Nat){B:β→NM→TP}{F:Option β}{f:β→Option R}(d:afd P F g k C B)(q:∀ v,SY T P Q (alT (B v (tz (ids.take k) nx)).1 (B v (tz (ids.take k) nx)).2.1 (W9 k (B v) ids nx) (ab T P n s)) (f v))(h:Jd T P (ab T P n s)=some (g,(C (tz ids nx)).1):=by kernel_rfl)(h1:(j5 (ab T P n s)).nx=nx:=by kernel_rfl)(h2:Nat.ble (j5 (ab T P n s)).lim (j5 (ab T P n s)).nx=true:=by kernel_rfl)(h3:ids.Nodup:=by decide)(h4:ids.map (j5 (ab T P n s)).get=(C (tz ids nx)).2.map some:=by kernel_rfl)(j:ids.all (Nat.ble (j5 (ab T P n s)).lim)=true:=by kernel_rfl)(a:C9 (ab T P n s)=true:=by kernel_rfl):SY T P Q s (F>>=f):=
 sV fun v e _ l=>by
  have c:=d v e _ nx ids (wO h1 h2 h3 h4 j)
  have q:=q v _ l
  cases hb:(B v (tz (ids.take k) nx)).1 with
  | true=>
    rw[hb] at q c
    exact yG K.ok n (by rw[YO a];exact c) q (by rw[YP a];exact h)
  | false=>
    rw[hb] at q c
    exact auo K.ok n c q h a
theorem mo (n:Nat){B:R→NM→TB}{x:R}(v:AV)(a:List Nat)(hu:kz (BT (ab T P n s)) a 0 (B x id).2.1:=by exact uT)(ha:pj (BT (ab T P n s)) a (a.drop k) (B x id).2.2:=by exact gP)(hf:lP (BT (ab T P n s)) a v (B x id).1:=by exact .pure pv)(h:wS (ab T P n s)=some v:=by kernel_rfl)(d:zr k (B x id).2.2.length a=true:=by kernel_rfl):SY T P (fun r=>Ao k (B r)) s (some x):=
 sE (Q:=fun r=>Ao k (B r)) (asQ K.ok n v a hf hu ha h d)
theorem afF (n:Nat){B:R→NM→TP}{x:R}(v:AV)(a:List Nat)(hu:kz (BT (ab T P n s)) a 0 (B x id).2.2.1:=by exact uT)(ha:pj (BT (ab T P n s)) a (a.drop k) (B x id).2.2.2:=by exact gP)(hf:lP (BT (ab T P n s)) a v (B x id).2.1:=by exact .pure pv)(h:wS (ab T P n s)=some v:=by kernel_rfl)(hb:(B x id).1=true:=by kernel_rfl)(d:zr k (B x id).2.2.2.length a=true:=by kernel_rfl):SY T P (fun r=>Ap k (B r)) s (some x):=
 sE (Q:=fun r=>Ap k (B r)) (by unfold Ap;rw[hb];exact asQ K.ok n v a hf hu ha h d)
theorem zo (n:Nat){B:R→NM→TP}{x:R}(v:AV)(a:List Nat)(hu:kz (BT (ab T P n s)) a 0 (B x id).2.2.1:=by exact uT)(ha:pj (BT (ab T P n s)) a (a.drop k) (B x id).2.2.2:=by exact gP)(hf:lP (BT (ab T P n s)) a v (B x id).2.1:=by exact .eB (.pure pv))(h:W6 (ab T P n s)=some v:=by kernel_rfl)(hb:(B x id).1=false:=by kernel_rfl)(d:zr k (B x id).2.2.2.length a=true:=by kernel_rfl):SY T P (fun r=>Ap k (B r)) s (some x):=
 sE (Q:=fun r=>Ap k (B r)) (by unfold Ap;rw[hb];exact aun K.ok n v a hf hu ha h d)
variable {S : ag}
theorem alU {α β:Type}(f:α→β)(l:List α):some (dg.val (.sc (.int .i64 ((l.map f).length:Nat))) S)=some (.val (.sc (.int .i64 (l.length:Int))) S):=by simp_all
theorem OD (g:Gh)(x:Value)(h:VR g .an x):VR g (.lit []) x:=by cases h;exact .jZ
theorem alV {P:Program}{α:Type} [C:Ec P α] {ys:List α} (h:S.get k=some (.arr C.m (ys.map C.enc)):=by kernel_rfl):iX S (.ai k 0 ys.length)=some (ys.map C.enc):=bC _ (.inr ⟨k,C.m,rfl,h⟩)
theorem sA [C:Ec P α] (n d k nx:Nat) {xs ys:List α} {f:Option R} (q:SY T P Q (eH (fun S=>.val (.ai nx 0 (xs++ys).length) ((S.del d).add (.arr C.m ((xs++ys).map C.enc)))) (ab T P n s)) f)
  (e:yH P (ab T P n s)=mQ P (fe (ab T P n s)) C.t C.t (.ai d 0 xs.length) (.ai k 0 ys.length):=by kernel_rfl) (h:j7 (.val (.ai nx 0 (xs++ys).length) (((fe (ab T P n s)).del d).add (.arr C.m ((xs++ys).map C.enc)))) (ab T P n s)=true:=by kernel_rfl)
  (j:(fe (ab T P n s)).get d=some (.arr C.m (xs.map C.enc)):=by kernel_rfl) (hs:iX (fe (ab T P n s)) (.ai k 0 ys.length)=some (ys.map C.enc):=by kernel_rfl) (l:(fe (ab T P n s)).nx=nx:=by kernel_rfl)
  (o:(Nat.ble ((fe (ab T P n s)).nx+1) 8192&&Nat.ble (fe (ab T P n s)).lim (fe (ab T P n s)).nx)=true:=by kernel_rfl) (a:Nat.ble (fe (ab T P n s)).lim d=true:=by kernel_rfl) (hy:ys≠[]:=by simp) :
  SY T P Q s (if decide (xs.length+ys.length≤1048576) then f else none):=
 sG fun c=>sT (bF K.ok n (fun S=>mQ P S C.t C.t (.ai d 0 xs.length) (.ai k 0 ys.length)) (fun S=>.val (.ai nx 0 (xs++ys).length) ((S.del d).add (.arr C.m ((xs++ys).map C.enc)))) e h
  (oh C.h3 C.h4 (fun x=>by rw[C.cs.eq,C.cs.len]) C.ce j hs rfl l o a hy c)) q
theorem Rh [C:Ec P α] (n d nx:Nat) {xs ys:List α} {f:Option R} (hy:ys≠[]) (q:SY T P Q (eH (fun S=>.val (.ai nx 0 (xs++ys).length) ((S.del d).add (.arr C.m ((xs++ys).map C.enc)))) (ab T P n s)) f)
  (e:yH P (ab T P n s)=mQ P (fe (ab T P n s)) C.t C.t (.ai d 0 xs.length) (.lit (ys.map C.enc)):=by kernel_rfl) (h:j7 (.val (.ai nx 0 (xs++ys).length) (((fe (ab T P n s)).del d).add (.arr C.m ((xs++ys).map C.enc)))) (ab T P n s)=true:=by kernel_rfl)
  (j:(fe (ab T P n s)).get d=some (.arr C.m (xs.map C.enc)):=by kernel_rfl) (l:(fe (ab T P n s)).nx=nx:=by kernel_rfl)
  (o:(Nat.ble ((fe (ab T P n s)).nx+1) 8192&&Nat.ble (fe (ab T P n s)).lim (fe (ab T P n s)).nx)=true:=by kernel_rfl) (a:Nat.ble (fe (ab T P n s)).lim d=true:=by kernel_rfl) :
  SY T P Q s (if decide (xs.length+ys.length≤1048576) then f else none):=
 sG fun c=>sT (bF K.ok n (fun S=>mQ P S C.t C.t (.ai d 0 xs.length) (.lit (ys.map C.enc))) (fun S=>.val (.ai nx 0 (xs++ys).length) ((S.del d).add (.arr C.m ((xs++ys).map C.enc)))) e h
  (oh C.h3 C.h4 (fun x=>by rw[C.cs.eq,C.cs.len]) C.ce j (bC _ (.inl rfl)) rfl l o a hy c)) q
theorem afG [C:Ec P α] (n k nx:Nat) {ys:List α} {f:Option R} (q:SY T P Q (eH (fun S=>.val (.ai nx 0 ys.length) (S.add (.arr C.m (ys.map C.enc)))) (ab T P n s)) f)
  (a:yH P (ab T P n s)=mQ P (fe (ab T P n s)) C.t C.t .an (.ai k 0 ys.length):=by kernel_rfl) (d:j7 (.val (.ai nx 0 ys.length) ((fe (ab T P n s)).add (.arr C.m (ys.map C.enc)))) (ab T P n s)=true:=by kernel_rfl)
  (hs:iX (fe (ab T P n s)) (.ai k 0 ys.length)=some (ys.map C.enc):=by kernel_rfl) (e:(fe (ab T P n s)).nx=nx:=by kernel_rfl)
  (h:(Nat.ble ((fe (ab T P n s)).nx+1) 8192&&Nat.ble (fe (ab T P n s)).lim (fe (ab T P n s)).nx)=true:=by kernel_rfl) (hy:ys≠[]:=by simp):SY T P Q s (if decide (ys.length≤1048576) then f else none):=
 sG fun c=>sT (bF K.ok n (fun S=>mQ P S C.t C.t .an (.ai k 0 ys.length)) (fun S=>.val (.ai nx 0 ys.length) (S.add (.arr C.m (ys.map C.enc)))) a d
  (AI (.inl rfl) C.h3 C.h4 (fun x=>by rw[C.cs.eq,C.cs.len]) C.ce hs e h hy c)) q
theorem Z1 [C:Ec P α] (n nx:Nat) {ys:List α} {f:Option R} (hy:ys≠[]) (q:SY T P Q (eH (fun S=>.val (.ai nx 0 ys.length) (S.add (.arr C.m (ys.map C.enc)))) (ab T P n s)) f)
  (a:yH P (ab T P n s)=mQ P (fe (ab T P n s)) C.t C.t .an (.lit (ys.map C.enc)):=by kernel_rfl) (d:j7 (.val (.ai nx 0 ys.length) ((fe (ab T P n s)).add (.arr C.m (ys.map C.enc)))) (ab T P n s)=true:=by kernel_rfl)
  (e:(fe (ab T P n s)).nx=nx:=by kernel_rfl) (h:(Nat.ble ((fe (ab T P n s)).nx+1) 8192&&Nat.ble (fe (ab T P n s)).lim (fe (ab T P n s)).nx)=true:=by kernel_rfl):SY T P Q s (if decide (ys.length≤1048576) then f else none):=
 sG fun c=>sT (bF K.ok n (fun S=>mQ P S C.t C.t .an (.lit (ys.map C.enc))) (fun S=>.val (.ai nx 0 ys.length) (S.add (.arr C.m (ys.map C.enc)))) a d
  (AI (.inl rfl) C.h3 C.h4 (fun x=>by rw[C.cs.eq,C.cs.len]) C.ce (bC _ (.inl rfl)) e h hy c)) q
theorem sW [C:Ec P α] (n d k nx:Nat) (w:List AV) {xs ys:List α} {f:Option R} (q:SY T P Q (eH (fun S=>.val (.ai nx 0 (xs++ys).length) ((S.del d).add (.arr C.m ((xs++ys).map C.enc)))) (ab T P n s)) f)
  (e:yH P (ab T P n s)=mQ P (fe (ab T P n s)) C.t C.t (.ai d 0 xs.length) (.ai k 0 ys.length):=by kernel_rfl) (h:((dI (ab T P n s)).bind (·.dst)).isSome=true:=by kernel_rfl) (j:sized C.m w=true:=by kernel_rfl)
  (l:(fe (ab T P n s)).get d=some (.arr C.m (xs.map C.enc)):=by kernel_rfl) (hs:iX (fe (ab T P n s)) (.ai k 0 ys.length)=some w:=by kernel_rfl) (o:vx w=ys.map C.enc:=by kernel_rfl) (p:(fe (ab T P n s)).nx=nx:=by kernel_rfl)
  (r:(Nat.ble ((fe (ab T P n s)).nx+1) 8192&&Nat.ble (fe (ab T P n s)).lim (fe (ab T P n s)).nx)=true:=by kernel_rfl) (a:Nat.ble (fe (ab T P n s)).lim d=true:=by kernel_rfl) (hy:ys≠[]:=by simp) :
  SY T P Q s (if decide (xs.length+ys.length≤1048576) then f else none):=
 sG fun c=>sT (Oa K.ok n (fun S=>mQ P S C.t C.t (.ai d 0 xs.length) (.ai k 0 ys.length)) (.ai nx 0 (xs++ys).length) (fun S=>(S.del d).add (.arr C.m ((xs++ys).map C.enc))) e h
  (AZ C.h3 C.h4 (fun x=>by rw[C.cs.eq,C.cs.len]) C.ce j l hs o rfl p r a hy c)) q
theorem auu [C:Ec P α] (n k nx:Nat) (w:List AV) {ys:List α} {f:Option R} (q:SY T P Q (eH (fun S=>.val (.ai nx 0 ys.length) (S.add (.arr C.m (ys.map C.enc)))) (ab T P n s)) f)
  (a:yH P (ab T P n s)=mQ P (fe (ab T P n s)) C.t C.t .an (.ai k 0 ys.length):=by kernel_rfl) (d:((dI (ab T P n s)).bind (·.dst)).isSome=true:=by kernel_rfl) (e:sized C.m w=true:=by kernel_rfl)
  (hs:iX (fe (ab T P n s)) (.ai k 0 ys.length)=some w:=by kernel_rfl) (h:vx w=ys.map C.enc:=by kernel_rfl) (j:(fe (ab T P n s)).nx=nx:=by kernel_rfl)
  (l:(Nat.ble ((fe (ab T P n s)).nx+1) 8192&&Nat.ble (fe (ab T P n s)).lim (fe (ab T P n s)).nx)=true:=by kernel_rfl) (hy:ys≠[]:=by simp):SY T P Q s (if decide (ys.length≤1048576) then f else none):=
 sG fun c=>sT (Oa K.ok n (fun S=>mQ P S C.t C.t .an (.ai k 0 ys.length)) (.ai nx 0 ys.length) (fun S=>S.add (.arr C.m (ys.map C.enc))) a d
  (FP (.inl rfl) C.h3 C.h4 e hs h j l hy c)) q
end
section
variable {T : FT} {P : Program} {Q : gL → ag → Prop} {ι α β : Type}
variable {s : St}
theorem QN (E:cX T P)(n:Nat){R:ι→Prop}{g:Nat}{args:List AV}(v:AV)(r:ι→ag→ag)(e:fY P g args (j5 (ab T P n s)) fun x b=>∃ c,R c∧x=.ret v∧b=r c (j5 (ab T P n s)))(q:∀ c,R c→SX P Q (N9 v (r c) (ab T P n s)))(h:Jd T P (ab T P n s)=some (g,args):=by kernel_rfl)(hf:Qn (ab T P n s)=true:=by kernel_rfl):SX P Q s:=by
 refine⟨cO E.ok E.mix n ?_⟩
 generalize ab T P n s=s at h hf e q
 cases s with
 | run fn F S k=>
   unfold Jd at h
   cases d:dI (.run fn F S k) with
   | none=>rw[d] at h;simp at h
   | some o=>
     rw[d] at h
     simp only at h
     cases a:gO o.op with
     | none=>simp_all
     | some c=>
       rw[a] at h
       simp only at h
       split at h<;>simp only[ba,lR,reduceCtorEq] at h
       rename_i l
       obtain⟨rfl,rfl⟩:=h
       obtain⟨_,q2⟩:=kO E.ok a l
       obtain⟨m,all,i,rest,td,f,j,t⟩:=pI d
       have:=fD.all (P:=P) (Qf:=Q) (ι:={ c:ι // R c }) (A:=fun p Q=>Reach P (F.after o v all rest td) (r p.1 S) (GK P k fn Q)) hf fun p=>by
        have:=(q _ p.2).out
        simp only[N9,ak,f,tI,j,gz] at this
        exact this
       exact fD.mono (fun Q q=>Reach.x9 m f j t (fB a) (q2 S) e fun r b u=>by
        obtain⟨c,w,rfl,rfl⟩:=u
        exact q ⟨c,w⟩) this
 | _=>simp[Qn] at hf
theorem AK (E:cX T P)(n:Nat){f:α→AV}{g:β→AV}{id m since:Nat}{sn:List Nat}{l:List (α×β)}(hs:since=l.length)(o:(∀ i,i<l.length→i∈sn)→SX P Q (eH (fun S=>.val (.bO [.sc (.bool false)]) S) (ab T P n s)))(p:∀ i x,l[i]? = some x→i∉sn→SX P Q (eH (fun S=>.val (.bO [.sc (.bool true),f x.1,g x.2]) (S.set id (.mi m since (sn++[i])))) (ab T P n s)))(j:WK (ab T P n s)=some (.ptr id 0 0):=by kernel_rfl)(h1:(j5 (ab T P n s)).get id=some (.mi m since sn):=by kernel_rfl)(h2:(j5 (ab T P n s)).get m=some (.mp (l.map (cg f g))):=by kernel_rfl)(q:Nat.ble (j5 (ab T P n s)).lim id=true:=by kernel_rfl):SX P Q s:=by
 obtain⟨L,c,d⟩:=IZ h1 h2 hs q
 refine⟨QM E.ok E.mix n j c fun v e t=>?_⟩
 have a:∀ r:ag→dg,eH r (ab T P n s)=Jp (r (j5 (ab T P n s))) (ab T P n s):=by
   intro r
   cases h:ab T P n s with
   | run fn F S k=>rfl
   | _=>simp_all[WK]
 have b:∀ v e,Jp (.val v e) (ab T P n s)=ak v (some e) (ab T P n s):=by
   intro v e
   cases h:ab T P n s with
   | run fn F S k=>rfl
   | _=>rw[h] at j;simp[WK] at j
 rcases d v e t with⟨rfl,rfl,k⟩ | ⟨i,x,k1,k2,rfl,rfl⟩
 · have:=(o k).out
   rwa [a,b] at this
 · have:=(p i x k1 k2).out
   rwa [a,b] at this
def agA (P:Program)(f k:Nat)(C:NM→TC)(R:ι→Prop)(B:ι→NM→TB):Prop:=∀(S:ag) (nx:Nat) (ids:List Nat),aj2 S nx ids (C (tz ids nx)).2 →
 fY P f (C (tz ids nx)).1 S fun a b=>∃ c,R c∧a=.ret (B c (tz (ids.take k) nx)).1∧b=B2 k (B c) ids nx S
def Hf (k:Nat)(R:ι→Prop)(B:ι→NM→TB):gL→ag→Prop:=fun r S=>∃ c,R c∧Ao k (B c) r S
variable {k : Nat}
theorem qx {R:ι→Prop}{B:ι→NM→TB}(h:∀ c,vq k (Ao k (B c))):vq k (Hf k R B):=fun σ h1 h2 r S a ⟨c,b,q⟩ hs=>⟨c,b,h c σ h1 h2 r S a q hs⟩
theorem UN (E:cX T P)(n:Nat){R:ι→Prop}{B:ι→NM→TB}(c:ι)(d:R c)(v:AV)(a:List Nat)(hf:lP (BT (ab T P n s)) a v (B c id).1)(hu:kz (BT (ab T P n s)) a 0 (B c id).2.1)(ha:pj (BT (ab T P n s)) a (a.drop k) (B c id).2.2)(h:wS (ab T P n s)=some v:=by kernel_rfl)(b:zr k (B c id).2.2.length a=true:=by kernel_rfl):SX P (Hf k R B) s:=by
 refine⟨cO E.ok E.mix n ?_⟩
 generalize ab T P n s=s at h hf hu ha
 unfold wS at h
 split at h<;>simp only[ba,reduceCtorEq] at h
 subst h
 simp only[zr,aY,decide_eq_true_eq,dh,List.mem_range,beq_iff_eq] at b
 obtain⟨⟨k1,k2⟩,k3⟩:=b
 refine⟨c,d,_,a,rfl,k1,np k2,k3,hf,fun i o' e=>?_,fun i o' e=>?_⟩
 · have:=vP hu i o' e
   rwa [uu] at this
 · obtain⟨id,o,p,q⟩:=vQ ha i o' e
   exact⟨id,o,by simp_all,q⟩
theorem ajF (E:cX T P)(m:Nat){f:Nat}{C:NM→TC}{R:ι→Prop}{B:ι→NM→TB}(h:SX P (Hf k R B) (St.start T f (C id).1 (pg m (nr 0 (C id).2))))(hb:∀ c,(∀ σ:NM,(B c id).1.aX σ=(B c σ).1∧(B c id).2.1.map (Option.map (aO.aX σ))=(B c σ).2.1∧(B c id).2.2.map (aO.aX σ)=(B c σ).2.2)∧(B c id).2.1.length=k)(d:∀ σ:NM,eG σ (C id).1=(C σ).1∧(C id).2.map (aO.aX σ)=(C σ).2)(n:m=(C id).2.length)(p:Nat.ble k (C id).2.length=true):agA P f k C R B:=by
 intro S nx ids q
 obtain⟨h1,h2,h3,h4⟩:=q
 subst h1
 subst n
 have j:ids.length=(C id).2.length:=by
  have r:∀ {ids:List Nat} {os:List aO},xg S ids os→ids.length=os.length:=by
   intro ids
   induction ids with
   | nil=>intro os h;cases os<;>simp_all[xg]
   | cons a l t=>intro os h;cases os with
     | nil=>simp[xg] at h
     | cons b m=>simp[t h.2]
  rw[r h4,←(d _).2,rf]
 have g:=gb p
 rw[←(d (tz ids S.nx)).2] at h4
 obtain⟨a,b⟩:=Gg h4
 rw[←(d (tz ids S.nx)).1]
 refine(fY.agv (b:=true) (R:=R) (jz:=fun c=>(B c id).2.1) (add:=fun c=>(B c id).2.2) (v' := fun c=>(B c id).1) (pad:=List.replicate (ids.length-k) none) (Cm E.ok h.out) g (by simp) (by simp;omega) (QG _) rfl rfl (fun c=>(hb c).2) (gb h2) (by simpa using a) h3 fun i x o e u=>b i x _ e (by rw[pw,u];rfl)).mono fun y z ⟨c,v,w,q2⟩=>⟨c,v,?_,?_⟩
 · rw[w,((hb c).1 _).1]
 · rw[q2,((hb c).1 _).2.1,((hb c).1 _).2.2];rfl
end
theorem aff : ∀(N:Nat) (k:List Nat),k.Nodup→(∀ j,j∈k→j<N)→k.length≤N
 | 0,k,_,h=>by
   cases k with
   | nil=>simp
   | cons a _=>exact absurd (h a (by simp)) (by omega)
 | N+1,k,d,h=>by
   by_cases c:N∈k
   · have:=aff N (k.erase N) (d.erase N) fun j b=>by
      have h1:=d.mem_erase_iff.1 b
      have:=h j h1.2
      omega
     simp_all
   · exact Nat.le_succ_of_le (aff N k d fun j b=>by
      have h1:=h j b
      have:j≠N:=fun e=>c (e▸b)
      omega)
end Go.Eng
namespace Go.Eng
open Go.Proofs Go.Shelf
theorem Inv.grow {S:ag}{g:Gh}{w:World}(hi:Inv S g w)(os:Array Obj):Inv S g (Sort.grow w os):=by
 have wY:∀ b y,w.heap[b]? = some y→(Sort.grow w os).heap[b]? = w.heap[b]? := fun b y e=>Sort.heap_grow_old w os (y8.1 e).1
 refine⟨fun b c e=>?_,fun id o e=>?_,hi.inj,hi.fresh⟩
 · obtain⟨t,fz,q⟩:=hi.ro b c e
   simp_all
 · obtain⟨l,a,b,c⟩:=hi.ob id o e
   obtain⟨y,hy⟩:=c.some
   simp_all
theorem Ext.grow {S:ag}{g:Gh}{w:World}(os:Array Obj):Ext S g w S g (Sort.grow w os):=
 ⟨by simp,rfl,⟨rfl,bJ _⟩,rfl,fun b hb _=>Sort.heap_grow_old w os hb,fun id o l h h1 h2 _=>⟨id,o,l,h,h1,h2,rfl⟩,Gh.le_refl _,bJ _,rfl,fun _ _=>rfl,fun _ _=>rfl,fun _ _ e _=>.inl e,fun _ _ e=>e,fun a ha=>Sort.frozen?_grow w os a ha⟩
theorem VR.VW {g:Gh}{id off len:Nat}{x:Value}(h:VR g (.ai id off len) x)(a:0<len):∃ l cap,g.ph id=some l∧x=.slice (some ⟨l.cU,l.base+off*l.sz,none⟩) len cap:=by
 cases h<;>simp_all
def kA (l:List Int):List Int:=l.mergeSort fun x y=>decide (x≤y)
variable {P : Program} {ρ : Ren}
theorem MO (L:Lays.n189 P ρ){S:ag}{o:Nat}(l:List Int)(Q:0<l.length)(R:l.length<4611686018427387904)(J:S.get o=some (.arr 1 (l.map (aA .i64))))(p:S.lim≤o) :
  fY P (ρ.f 189) [.ai o 0 l.length] S fun r T=>r=.ret (.bO [])∧T=S.set o (.arr 1 ((kA l).map (aA .i64))):=by
 intro g w xs hx hi
 obtain⟨b,K,Z,c,t,hb,bz,sz,d,I,C⟩:=hi.ob o _ J
 obtain⟨U,M,v0⟩:=hx.get (k:=0) rfl
 have E:xs = #[U]:=by
  apply Array.ext_getElem?
  intro i
  match i with
  | 0=>exact M
  | i+1=>rw[Array.getElem?_eq_none (by have:=hx.1;simp at this;omega)];simp
 subst E
 clear M hx
 obtain⟨Y,cap,z,rfl⟩:=v0.VW Q
 rw[K] at z;simp only[ba] at z;subst z
 rw[Nat.zero_mul,xj]
 simp only[rf] at d
 have q:b.cU<w.heap.size:=(y8.1 hb).1
 have key:∀ i:Nat,(h:i<l.length)→c[b.base+i]? = some (.int .i64 l[i]):=by
  intro i h
  have lt:b.base+i<c.size:=by omega
  have:=C i 0 (aA .i64 l[i]) (aA .i64 l[i]) c[b.base+i] (by simp[h]) rfl (by rw[Nat.mul_one,xj];exact Ak lt)
  rw[Ak lt]
  generalize c[b.base+i]=y at this
  cases this with
  | sc=>rfl
 have V:Sort.Holds (Value.int .i64) w b.cU b.base l.toArray:=by
  intro j u
  have F:j<l.length:=by simpa using u
  refine⟨?_,Df (by show BX w.heap[b.cU]? = true;rw[hb];rfl)⟩
  rw[getElem!_pos l.toArray _ u]
  simpa using cell_of hb (key j F)
 have s:=Any.slices_Sort_int L b.cU b.base cap l w V q R
 refine s.mono ?_
 rintro e w' ⟨rfl,n,os,rfl⟩
 have N:(kA l).length=l.length:=List.length_mergeSort _
 rw[show(l.mergeSort fun x y=>decide (x≤y))=kA l from rfl]
 generalize kA l=D at N ⊢
 have G:(Sort.putRow (Value.int .i64) (Sort.ahead w n) b.cU b.base D.toArray).heap[b.cU]? = some (.cells (Sort.putCells (Value.int .i64) b.base D.toArray c) t (0,0)):=by
  simp[Sort.putRow,Sort.mapBlock,Sort.ahead,Fw,hb,Sort.onCells]
 obtain ⟨W,X⟩:=hi.jz (w' := Sort.putRow (Value.int .i64) (Sort.ahead w n) b.cU b.base D.toArray) (o' := .arr 1 (D.map (aA .i64))) J p K (by rw[Sort.size_putRow];rfl) G
  (fun j u=>by simp[Sort.putRow,Sort.mapBlock,Sort.ahead,Fw,Ne.symm u]) rfl ⟨rfl,Nat.le_add_right _ _⟩ rfl
  ⟨_,t,rfl,by simpa [Sort.putCells] using bz,sz,by simp only[rf,N];simpa [Sort.putCells] using d,fun e O=>by
   simp only[iB] at O
   obtain⟨_,_,rfl⟩:=O
   rfl,fun i j e a y A B v=>by
   have m:i<D.length:=by
     have:=(lr.1 A).1;simpa using this
   have H:e=aA .i64 D[i]:=by
     simp only[pw,qm m,j9,ba] at A
     exact A.symm
   subst H
   cases j with
   | succ j=>simp[aA,AV.cells] at B
   | zero=>
     simp only[aA,AV.cells,ur,ba] at B
     subst B
     have lt:b.base+i<c.size:=by omega
     simp only[Sort.putCells,Nat.mul_one,xj,Array.getElem?_mapIdx,Ak lt,j9] at v
     rw[if_pos ⟨by omega,by simp;omega⟩] at v
     simp only[ba] at v
     subst v
     rw[show b.base+i-b.base=i by omega,getElem!_pos D.toArray i (by simpa using m)]
     exact .sc rfl⟩
 exact⟨.ret (.bO []),_,g,⟨rfl,rfl⟩,.bO rfl fun k a x e=>by simp at e,W.grow os,X.trans (Ext.grow os)⟩
theorem Sw (L:Lays.n189 P ρ)(S:ag):fY P (ρ.f 189) [.an] S fun r c=>r=.ret (.bO [])∧c=S:=by
 intro g w xs hx hi
 obtain⟨d,h,v0⟩:=hx.get (k:=0) rfl
 have b:xs = #[d]:=by
  apply Array.ext_getElem?
  intro i
  match i with
  | 0=>exact h
  | i+1=>rw[Array.getElem?_eq_none (by have:=hx.1;simp at this;omega)];simp
 subst b
 cases v0
 refine(Any.slices_Sort_int_none L none _ w).mono ?_
 rintro e w' ⟨rfl,rfl⟩
 exact⟨.ret (.bO []),S,g,⟨rfl,rfl⟩,.bO rfl fun k a x e=>by simp at e,hi,Ext.refl _ _ _⟩
end Go.Eng

/- Abstract values and stores, their meaning, and the operations on them; no conditions. -/
import Derived.Recover
import Derived.Laws.Sem
import Derived.Laws.World
import Derived.Laws.StructEq
import Derived.Laws.BitsLemmas
namespace Go.Eng
noncomputable section
abbrev AT := @Array.getElem?_eq_getElem
abbrev nA := @List.getElem?_eq_getElem
abbrev ue := @Nat.mul_le_mul_right
abbrev sq := @List.mem_of_getElem?
abbrev nf := @Nat.lt_succ_self
abbrev tf := @List.mem_cons_of_mem
abbrev sr := @Nat.ble_eq_true_of_le
abbrev gU := @Prod.mk.injEq
abbrev jj := @Nat.eq_of_beq_eq_true
abbrev ed := @Nat.le_of_ble_eq_true
abbrev an := @Option.some.injEq
def D5 : Value→Bool
 | .bool _ | .int _ _ | .string _ | .pointer none | .map none | .nilFunc | .nilIface=>true
 | _=>false
inductive AV where
 | sc (v : Value)
 | agg (cs : List AV)
 | dV
 | ax
 | lit (es : List AV)
 | fa (cs : List AV)
 | ptr (id i j : Nat)
 | ak (id off len : Nat)
 | dm (id : Nat)
 | fn (f : Fn) (first cap : List AV)
 | eS (t : TypeId) (v : AV)
 | bM (vs : List AV)
 | nU (id : Nat)
 | clip (v : AV)
 | top
 deriving Inhabited
def AV.cells : AV→List AV
 | .agg cs=>cs
 | v=>[v]
structure Loc where
 bO : Nat
 base : Nat
 sz : Nat
 bz : Nat
structure Gh where
 ro : Nat → Option (Array Value)
 ph : Nat → Option Loc
structure Gh.le (a b : Gh) : Prop where
 ro : ∀ k c, a.ro k = some c → b.ro k = some c
 ph : ∀ k l, a.ph k = some l → b.ph k = some l
theorem Gh.le_refl (a:Gh):Gh.le a a:=⟨fun _ _ h=>h,fun _ _ h=>h⟩
theorem Gh.le_trans {a b c:Gh}(h:Gh.le a b)(k:Gh.le b c):Gh.le a c:=⟨fun i x e=>k.ro i x (h.ro i x e),fun i x e=>k.ph i x (h.ph i x e)⟩
inductive VR (g : Gh) : AV → Value → Prop
 | sc {v : Value} (h : D5 v = true) : VR g (.sc v) v
 | agg {cs : List AV} {xs : Array Value} (hl : cs.length = xs.size) (h : ∀ (k : Nat) (a : AV) (x : Value), cs[k]? = some a → xs[k]? = some x → VR g a x) : VR g (.agg cs) (.agg xs)
 | dV {a : Option Addr} : VR g .dV (.slice a 0 0)
 | ax : VR g .ax (.slice none 0 0)
 | lit {es : List AV} {b o sz cap : Nat} {c : Array Value} (hr : g.ro b = some c) (hs : ∀ e, e ∈ es → e.cells.length = sz) (hb : o + es.length * sz ≤ c.size) (hcap : es.length ≤ cap)
  (h : ∀ (i j : Nat) (e a : AV) (x : Value), es[i]? = some e → e.cells[j]? = some a → c[o + i * sz + j]? = some x → VR g a x) :
  VR g (.lit es) (.slice (some ⟨b, o, none⟩) es.length cap)
 | gi {a : Option Addr} {cap : Nat} : VR g (.lit []) (.slice a 0 cap)
 | fa {cs : List AV} {b o : Nat} {c : Array Value} (hr : g.ro b = some c) (hb : o + cs.length ≤ c.size)
  (h : ∀ (j : Nat) (a : AV) (x : Value), cs[j]? = some a → c[o + j]? = some x → VR g a x) : VR g (.fa cs) (.pointer (some ⟨b, o, none⟩))
 | ptr {id i j : Nat} {l : Loc} (hl : g.ph id = some l) : VR g (.ptr id i j) (.pointer (some ⟨l.bO, l.base + i * l.sz + j, none⟩))
 | ak {id off len cap : Nat} {l : Loc} (hl : g.ph id = some l) (hc : len ≤ cap) (hb : l.base + (off + cap) * l.sz = l.bz) :
  VR g (.ak id off len) (.slice (some ⟨l.bO, l.base + off * l.sz, none⟩) len cap)
 | fI {id off : Nat} {a : Addr} {l : Loc} (hl : g.ph id = some l) (hb : l.base + off * l.sz = l.bz) : VR g (.ak id off 0) (.slice (some a) 0 0)
 | dm {id : Nat} {l : Loc} (hl : g.ph id = some l) : VR g (.dm id) (.map (some l.bO))
 | fn {f : Fn} {first cap : List AV} {xs ys : Array Value} (hx : first.length = xs.size) (hy : cap.length = ys.size)
  (h : ∀ (k : Nat) (a : AV) (x : Value), first[k]? = some a → xs[k]? = some x → VR g a x)
  (h' : ∀ (k : Nat) (a : AV) (x : Value), cap[k]? = some a → ys[k]? = some x → VR g a x) : VR g (.fn f first cap) (.func f xs ys)
 | eS {t : TypeId} {v : AV} {x : Value} (h : VR g v x) : VR g (.eS t v) (.iface t x)
 | bM {vs : List AV} {xs : Array Value} (hl : vs.length = xs.size) (h : ∀ (k : Nat) (a : AV) (x : Value), vs[k]? = some a → xs[k]? = some x → VR g a x) : VR g (.bM vs) (.tuple xs)
 | nU {id : Nat} {l : Loc} (hl : g.ph id = some l) : VR g (.nU id) (.func (.yield l.bO) #[] #[])
 | clip {v : AV} {a : Option Addr} {n c : Nat} (h : VR g v (.slice a n c)) : VR g (.clip v) (.slice a n n)
 | top {x : Value} : VR g .top x
variable {g : Gh} {x : Value}
theorem VR.mono {g' : Gh}(e:Gh.le g g'){v:AV}(h:VR g v x):VR g' v x:=by
 induction h with
 | sc h=>exact .sc h
 | agg c _ d=>exact .agg c d
 | dV=>exact .dV
 | ax=>exact .ax
 | lit n q f m _ d=>exact .lit (e.ro _ _ n) q f m d
 | gi=>exact .gi
 | fa n f _ d=>exact .fa (e.ro _ _ n) f d
 | ptr c=>exact .ptr (e.ph _ _ c)
 | ak c r f=>exact .ak (e.ph _ _ c) r f
 | fI c f=>exact .fI (e.ph _ _ c) f
 | dm c=>exact .dm (e.ph _ _ c)
 | fn hx t _ _ d p=>exact .fn hx t d p
 | eS _ d=>exact .eS d
 | bM c _ d=>exact .bM c d
 | nU c=>exact .nU (e.ph _ _ c)
 | clip _ d=>exact .clip d
 | top=>exact .top
def AV.pc : AV→AV
 | .clip v=>v
 | v=>v
theorem VR.pc {g:Gh}{v:AV}{x:Value}(h:VR g v x):VR g v.pc x∨∃ a n c,x=.slice a n n∧VR g v.pc (.slice a n c):=by
 cases h with
 | clip h=>exact .inr ⟨_,_,_,rfl,h⟩
 | _=>left;first | (constructor<;>assumption) | (rename_i h;exact h)
def fe (g:Gh)(l:List AV)(xs:Array Value):Prop:=l.length=xs.size∧∀(k:Nat) (a:AV) (x:Value),l[k]? = some a→xs[k]? = some x→VR g a x
theorem fe.mono {g g' : Gh}(c:Gh.le g g'){l:List AV}{xs:Array Value}(h:fe g l xs):fe g' l xs:=⟨h.1,fun k a x e d=>(h.2 k a x e d).mono c⟩
variable {xs : Array Value} {k : Nat} {a : AV}
theorem fe.get {l:List AV}(h:fe g l xs)(e:l[k]? = some a):∃ x,xs[k]? = some x∧VR g a x:=by
 have d:k<l.length:=(List.getElem?_eq_some_iff.1 e).1
 have c:k<xs.size:=h.1▸d
 have hx:xs[k]? = some xs[k]:=AT c
 exact⟨_,hx,h.2 k a _ e hx⟩
theorem fe.nil (g:Gh):fe g [] #[]:=⟨rfl,fun k a x e=>by simp at e⟩
theorem fe.acu {l:List AV}{ys:List Value}(c:l.length=ys.length)(h:∀(k:Nat) (a:AV) (x:Value),l[k]? = some a→ys[k]? = some x→VR g a x):fe g l ys.toArray:=
 ⟨by simpa using c,fun k a x e d=>h k a x e (by simpa using d)⟩
theorem fe.cons {l:List AV}{xs:List Value}(h:VR g a x)(t:fe g l xs.toArray):fe g (a::l) (x::xs).toArray:=by
 refine⟨by simpa using t.1,fun k b y e c=>?_⟩
 cases k with
 | zero=>simp at e c;subst e;subst c;exact h
 | succ k=>exact t.2 k b y (by simpa using e) (by simpa using c)
theorem fe.append {l m:List AV}{ys:Array Value}(h:fe g l xs)(d:fe g m ys):fe g (l++m) (xs++ys):=by
 refine⟨by simp[h.1,d.1],fun k a x e c=>?_⟩
 by_cases f:k<l.length
 · rw[List.getElem?_append_left f] at e
   rw[Array.getElem?_append_left (h.1▸f)] at c
   exact h.2 k a x e c
 · rw[List.getElem?_append_right (by omega)] at e
   rw[Array.getElem?_append_right (by have:=h.1;omega),←h.1] at c
   exact d.2 _ a x e c
theorem fe.drop {g:Gh}{l:List AV}{xs:Array Value}(h:fe g l xs)(n:Nat):fe g (l.drop n) (xs.extract n xs.size):=by
 refine⟨by simp[h.1],fun k a x e c=>?_⟩
 rw[List.getElem?_drop] at e
 rw[Array.getElem?_extract] at c
 split at c
 · exact h.2 _ a x e c
 · simp at c
inductive ai where
 | arr (sz : Nat) (es : List AV)
 | mp (kvs : List (AV × AV))
 | lp (st : LoopState) (pending : Option Code) (fn : FuncId) (n mask : Nat) (env : List (Nat × AV)) (params : List Tmp) (assign body : Code)
 | df (open_ : Bool)
 | si (s : ByteArray) (pos : Nat)
 | mi (m since : Nat) (seen : List Nat)
 | mz
 deriving Inhabited
inductive PT where
 | nil
 | node (o : Option ai) (l r : PT)
 deriving Inhabited
noncomputable def PT.get (_:Nat)(t:PT):Nat→Option ai:=
 PT.rec (motive:=fun _=>Nat→Option ai) (fun _=>none)
  (fun o _ _ c d i=>Bool.rec (motive:=fun _=>Option ai) (Bool.rec (motive:=fun _=>Option ai) (c (i/2)) (d (Nat.pred (i/2))) (Nat.beq (i%2) 0)) o (Nat.beq i 0)) t
noncomputable def PT.A0 (n:Nat):PT→Nat→Option ai→PT:=
 Nat.rec (motive:=fun _=>PT→Nat→Option ai→PT) (fun t _ _=>t)
  (fun _ c t i v=>PT.rec (motive:=fun _=>PT)
   (Bool.rec (motive:=fun _=>PT) (Bool.rec (motive:=fun _=>PT) (.node none (c .nil (i/2) v) .nil) (.node none .nil (c .nil (Nat.pred (i/2)) v)) (Nat.beq (i%2) 0)) (.node v .nil .nil) (Nat.beq i 0))
   (fun o l r _ _=>Bool.rec (motive:=fun _=>PT) (Bool.rec (motive:=fun _=>PT) (.node o (c l (i/2) v) r) (.node o l (c r (Nat.pred (i/2)) v)) (Nat.beq (i%2) 0)) (.node v l r) (Nat.beq i 0)) t) n
def PT.set (_:Nat)(t:PT)(i:Nat)(v:Option ai):PT:=PT.A0 (i+1) t i v
theorem PT.get_nil (d i:Nat):PT.get d .nil i=none:=rfl
theorem PT.qs (d:Nat)(o:Option ai)(l r:PT)(i:Nat):PT.get d (.node o l r) i=if i=0 then o else if i%2=0 then PT.get d r (i/2-1) else PT.get d l (i/2):=by
 have e:PT.get d (.node o l r) i=Bool.rec (motive:=fun _=>Option ai) (Bool.rec (motive:=fun _=>Option ai) (PT.get d l (i/2)) (PT.get d r (Nat.pred (i/2))) (Nat.beq (i%2) 0)) o (Nat.beq i 0):=by
   first
    | rfl
    | (simp only[PT.get];cases Nat.beq i 0<;>cases Nat.beq (i%2) 0<;>rfl)
 rw[e]
 by_cases h0:i=0
 · subst h0;rfl
 · rw[if_neg h0,show Nat.beq i 0=false from by rw[Bool.eq_false_iff];exact fun q=>h0 (jj q)]
   by_cases h1:i%2=0
   · rw[if_pos h1,h1];rfl
   · rw[if_neg h1,show Nat.beq (i%2) 0=false from by rw[Bool.eq_false_iff];exact fun q=>h1 (jj q)]
def PT.left : PT→PT
 | .nil=>.nil
 | .node _ l _=>l
def PT.right : PT→PT
 | .nil=>.nil
 | .node _ _ r=>r
def PT.top : PT→Option ai
 | .nil=>none
 | .node o _ _=>o
theorem PT.B1 (n:Nat)(t:PT)(i:Nat)(v:Option ai):PT.A0 (n+1) t i v=if i=0 then .node v t.left t.right else if i%2=0 then .node t.top t.left (PT.A0 n t.right (i/2-1) v) else .node t.top (PT.A0 n t.left (i/2) v) t.right:=by
 have e:PT.A0 (n+1) t i v=Bool.rec (motive:=fun _=>PT) (Bool.rec (motive:=fun _=>PT) (.node t.top (PT.A0 n t.left (i/2) v) t.right) (.node t.top t.left (PT.A0 n t.right (Nat.pred (i/2)) v)) (Nat.beq (i%2) 0)) (.node v t.left t.right) (Nat.beq i 0):=by
   cases t<;>first
    | rfl
    | (simp only[PT.A0];cases Nat.beq i 0<;>cases Nat.beq (i%2) 0<;>rfl)
 rw[e]
 by_cases h0:i=0
 · subst h0;rfl
 · rw[if_neg h0,show Nat.beq i 0=false from by rw[Bool.eq_false_iff];exact fun q=>h0 (jj q)]
   by_cases h1:i%2=0
   · rw[if_pos h1,h1];rfl
   · rw[if_neg h1,show Nat.beq (i%2) 0=false from by rw[Bool.eq_false_iff];exact fun q=>h1 (jj q)]
theorem PT.get_eq (d:Nat)(t:PT)(i:Nat):PT.get d t i=if i=0 then t.top else if i%2=0 then PT.get d t.right (i/2-1) else PT.get d t.left (i/2):=by
 cases t with
 | nil=>simp only[PT.get_nil,PT.top,PT.left,PT.right];split<;>first | rfl | (split<;>rfl)
 | node o l r=>exact PT.qs d o l r i
theorem PT.Bf (d:Nat)(v:Option ai):∀(n:Nat) (t:PT) (i:Nat),i<n→PT.get d (PT.A0 n t i v) i=v:=by
 intro n
 induction n with
 | zero=>intro t i h;omega
 | succ n c=>
   intro t i h
   rw[PT.B1]
   by_cases h0:i=0
   · subst h0;simp[PT.qs]
   · by_cases h1:i%2=0
     · simp only[if_neg h0,if_pos h1,PT.qs];exact c _ _ (by omega)
     · simp only[if_neg h0,if_neg h1,PT.qs];exact c _ _ (by omega)
theorem PT.Ay (d:Nat)(v:Option ai):∀(n:Nat) (t:PT) (i j:Nat),i≠j→PT.get d (PT.A0 n t i v) j=PT.get d t j:=by
 intro n
 induction n with
 | zero=>intro t i j h;rfl
 | succ n f=>
   intro t i j h
   rw[PT.B1,PT.get_eq d t j]
   by_cases h0:i=0
   · have m:¬ j=0:=by omega
     simp only[if_pos h0,PT.qs,if_neg m]
   · by_cases h1:i%2=0
     · simp only[if_neg h0,if_pos h1,PT.qs]
       by_cases c:j=0
       · simp[c]
       · by_cases e:j%2=0
         · simp only[if_neg c,if_pos e];exact f _ _ _ (by omega)
         · simp[if_neg c,if_neg e]
     · simp only[if_neg h0,if_neg h1,PT.qs]
       by_cases c:j=0
       · simp[c]
       · by_cases e:j%2=0
         · simp[if_neg c,if_pos e]
         · simp only[if_neg c,if_neg e];exact f _ _ _ (by omega)
theorem PT.bn (d:Nat)(t:PT)(i:Nat)(v:Option ai):PT.get d (PT.set d t i v) i=v:=PT.Bf d v _ t i (by omega)
theorem PT.rj (d:Nat)(t:PT)(i j:Nat)(v:Option ai)(h:i≠j):PT.get d (PT.set d t i v) j=PT.get d t j:=PT.Ay d v _ t i j h
abbrev Ok (i:Nat):Prop:=i<i+1
theorem PT.ar (d:Nat)(t:PT)(i j:Nat)(v:Option ai)(_:Ok i)(_:Ok j)(c:i≠j):PT.get d (PT.set d t i v) j=PT.get d t j:=PT.rj d t i j v c
def dep : Nat:=13
structure af where
 nx : Nat
 lim : Nat
 m : PT
def af.get (s:af)(i:Nat):Option ai:=PT.get dep s.m i
def af.set (s:af)(i:Nat)(o:ai):af:=
 match s with
 | ⟨nx,lim,m⟩=>⟨nx,lim,PT.set dep m i (some o)⟩
def af.del (s:af)(i:Nat):af:=
 match s with
 | ⟨nx,lim,m⟩=>⟨nx,lim,PT.set dep m i none⟩
def af.add (s:af)(o:ai):af:=
 match s with
 | ⟨nx,lim,m⟩=>⟨Nat.succ nx,lim,PT.set dep m nx (some o)⟩
def af.empty : af:=⟨0,0,.nil⟩
variable {s : af} {i : Nat}
theorem af.fG (h:¬ Ok i):s.get i=none:=absurd (nf i) h
theorem af.bK (_:Ok i):s.get i=PT.get dep s.m i:=rfl
variable {o : ai}
theorem af.dG (_:s.get i=some o):Ok i:=nf i
theorem af.cS (i:Nat):af.empty.get i=none:=by
 by_cases hi:Ok i
 · rw[af.bK hi];exact PT.get_nil _ _
 · exact af.fG hi
theorem af.bn {s:af}{i:Nat}{o:ai}(h:Ok i):(s.set i o).get i=some o:=by
 rw[af.bK h];exact PT.bn _ _ _ _
theorem af.ar {s:af}{i j:Nat}{o:ai}(h:Ok i)(d:j≠i):(s.set i o).get j=s.get j:=by
 by_cases c:Ok j
 · rw[af.bK c,af.bK c];exact PT.ar _ _ _ _ _ h c (Ne.symm d)
 · rw[af.fG c,af.fG c]
theorem af.fi : (s.del i).get i=none:=by
 by_cases h:Ok i
 · rw[af.bK h];exact PT.bn _ _ _ _
 · exact af.fG h
variable {j : Nat}
theorem af.bQ (h:Ok i)(d:j≠i):(s.del i).get j=s.get j:=by
 by_cases c:Ok j
 · rw[af.bK c,af.bK c];exact PT.ar _ _ _ _ _ h c (Ne.symm d)
 · rw[af.fG c,af.fG c]
theorem af.kW (h:Ok s.nx):(s.add o).get s.nx=some o:=by
 rw[af.bK h];exact PT.bn _ _ _ _
theorem af.dj (h:Ok s.nx)(d:j≠s.nx):(s.add o).get j=s.get j:=by
 by_cases c:Ok j
 · rw[af.bK c,af.bK c];exact PT.ar _ _ _ _ _ h c (Ne.symm d)
 · rw[af.fG c,af.fG c]
noncomputable def lk (l:List (Nat×AV))(t:Nat):Option AV:=
 List.rec (motive:=fun _=>Option AV) none (fun p _ c=>Bool.rec (motive:=fun _=>Option AV) c (some p.2) (Nat.beq p.1 t)) l
noncomputable def up (l:List (Nat×AV))(t:Nat)(v:AV):List (Nat×AV):=
 List.rec (motive:=fun _=>List (Nat×AV)) [(t,v)] (fun p r c=>Bool.rec (motive:=fun _=>List (Nat×AV)) (p::c) ((p.1,v)::r) (Nat.beq p.1 t)) l
theorem nC (t:Nat):lk [] t=none:=rfl
theorem fU (k:Nat)(v:AV)(r:List (Nat×AV))(t:Nat):lk ((k,v)::r) t=match Nat.beq k t with
  | true=>some v
  | false=>lk r t:=by
 cases h:Nat.beq k t
 · exact(show lk ((k,v)::r) t=Bool.rec (motive:=fun _=>Option AV) (lk r t) (some v) (Nat.beq k t) from by first | rfl | (simp only[lk,h])).trans (by rw[h])
 · exact(show lk ((k,v)::r) t=Bool.rec (motive:=fun _=>Option AV) (lk r t) (some v) (Nat.beq k t) from by first | rfl | (simp only[lk,h])).trans (by rw[h])
theorem GB (t:Nat)(v:AV):up [] t v=[(t,v)]:=rfl
theorem CY (k:Nat)(u:AV)(r:List (Nat×AV))(t:Nat)(v:AV):up ((k,u)::r) t v=match Nat.beq k t with
  | true=>(k,v)::r
  | false=>(k,u)::up r t v:=by
 cases h:Nat.beq k t
 · exact(show up ((k,u)::r) t v=Bool.rec (motive:=fun _=>List (Nat×AV)) ((k,u)::up r t v) ((k,v)::r) (Nat.beq k t) from by first | rfl | (simp only[up,h])).trans (by rw[h])
 · exact(show up ((k,u)::r) t v=Bool.rec (motive:=fun _=>List (Nat×AV)) ((k,u)::up r t v) ((k,v)::r) (Nat.beq k t) from by first | rfl | (simp only[up,h])).trans (by rw[h])
theorem sD (l:List (Nat×AV))(t:Nat)(v:AV):lk (up l t v) t=some v:=by
 induction l with
 | nil=>simp[GB,fU]
 | cons a r c=>
   obtain⟨k,u⟩:=a
   simp only[CY]
   cases h:Nat.beq k t with
   | true=>simp[fU,h]
   | false=>simp[fU,h,c]
theorem rk (l:List (Nat×AV)){t s:Nat}(v:AV)(c:s≠t):lk (up l t v) s=lk l s:=by
 induction l with
 | nil=>
   simp only[GB,nC,fU]
   rw[show Nat.beq t s=false from by rw[Bool.eq_false_iff];exact fun e=>c (jj e).symm]
 | cons a r d=>
   obtain⟨k,u⟩:=a
   simp only[CY]
   cases h:Nat.beq k t with
   | true=>
     have f:k=t:=jj h
     simp only[fU]
     rw[show Nat.beq k s=false from by rw[Bool.eq_false_iff];exact fun e=>c ((jj e).symm.trans f)]
   | false=>simp only[fU,d]
def LR (g:Gh)(l:List (Nat×AV))(tmps:Array Value):Prop:=∀(t:Nat) (v:AV),lk l t=some v→∃ x,tmps[t]? = some x∧VR g v x
theorem LR.mono {g g' : Gh}(c:Gh.le g g'){l:List (Nat×AV)}{tmps:Array Value}(h:LR g l tmps):LR g' l tmps:=
 fun t v e=>let ⟨x,hx,d⟩:=h t v e;⟨x,hx,d.mono c⟩
def rI (g:Gh)(l:Loc)(x:Option Obj):ai→Prop
 | .arr sz es=>∃ c t,x=some (.cells c t (0,0))∧c.size=l.bz∧l.sz=sz∧l.base+es.length*sz≤c.size∧(∀ e,e∈es→e.cells.length=sz) ∧
  ∀(i j:Nat) (e a:AV) (y:Value),es[i]? = some e→e.cells[j]? = some a→c[l.base+i*sz+j]? = some y→VR g a y
 | .mp d=>∃ es clock,x=some (.map es clock)∧es.size=d.length ∧
  (∀(k:Nat) (f:AV×AV) (e:MapEntry),d[k]? = some f→es[k]? = some e→VR g f.1 e.key∧VR g f.2 e.val)∧clock=es.size∧∀(k:Nat) (e:MapEntry),es[k]? = some e→e.born=k
 | .lp st pending fn n _ env params assign body=>∃ lo,x=some (.loop lo)∧lo.state=st∧lo.pending=pending∧lo.fn=fn∧lo.tmps.size=n∧LR g env lo.tmps ∧
  lo.params=params.toArray∧lo.assign=assign∧lo.body=body
 | .df o=>x=some (.deferred (if o then some [] else none))
 | .si s p=>x=some (.stringIter s p)∧l.base=0
 | .mi m since seen=>∃ lm,g.ph m=some lm∧x=some (.mapIter (some lm.bO) since seen.toArray since)∧l.base=0
 | .mz=>∃ a b c,x=some (.mapIter none a b c)∧l.base=0
theorem rI.mono {g g' : Gh}(d:Gh.le g g'){l:Loc}{x:Option Obj}{o:ai}(h:rI g l x o):rI g' l x o:=by
 cases o with
 | arr sz es=>
   obtain⟨c,t,h1,h2,h3,h4,h5,h6⟩:=h
   exact⟨c,t,h1,h2,h3,h4,h5,fun i j e a y p q r=>(h6 i j e a y p q r).mono d⟩
 | mp u=>
   obtain⟨es,k,h1,h2,h3,h4⟩:=h
   exact⟨es,k,h1,h2,fun i f e p q=>⟨(h3 i f e p q).1.mono d,(h3 i f e p q).2.mono d⟩,h4⟩
 | lp st pending fn n mk env params assign body=>
   obtain⟨lo,h1,h2,h3,h4,h5,h6,h7,h8,h9⟩:=h
   exact⟨lo,h1,h2,h3,h4,h5,h6.mono d,h7,h8,h9⟩
 | df o=>exact h
 | si s p=>exact h
 | mi m since seen=>obtain⟨lm,a,b,c⟩:=h;exact⟨lm,d.ph _ _ a,b,c⟩
 | mz=>exact h
theorem rI.some {g:Gh}{l:Loc}{x:Option Obj}{o:ai}(h:rI g l x o):∃ y,x=some y:=by
 cases o with
 | arr sz es=>obtain⟨c,t,h1,_⟩:=h;exact⟨_,h1⟩
 | mp d=>obtain⟨es,k,h1,_⟩:=h;exact⟨_,h1⟩
 | lp st pending fn n mk env params assign body=>obtain⟨lo,h1,_⟩:=h;exact⟨_,h1⟩
 | df o=>exact⟨_,h⟩
 | si s p=>exact⟨_,h.1⟩
 | mi m since seen=>obtain⟨lm,a,b,c⟩:=h;exact⟨_,b⟩
 | mz=>obtain⟨a,b,c,h,_⟩:=h;exact⟨_,h⟩
structure Inv (S : af) (g : Gh) (w : World) : Prop where
 ro : ∀ b c, g.ro b = some c → ∃ t fz, w.heap[b]? = some (.cells c t fz)
 ob : ∀ id o, S.get id = some o → ∃ l, g.ph id = some l ∧ g.ro l.bO = none ∧ rI g l w.heap[l.bO]? o
 inj : ∀ id id' o o' l l', S.get id = some o → S.get id' = some o' → g.ph id = some l → g.ph id' = some l' → l.bO = l'.bO → id = id'
 fresh : ∀ id, S.nx ≤ id → g.ph id = none
abbrev D0 (w' w:World):Prop:=w'.tape=w.tape∧w.drawn≤w'.drawn
theorem D0.trans {a b c:World}(h:D0 a b)(k:D0 b c):D0 a c:=⟨h.1.trans k.1,Nat.le_trans k.2 h.2⟩
structure Ext (S : af) (g : Gh) (w : World) (S' : af) (g' : Gh) (w' : World) : Prop where
 size : w.heap.size ≤ w'.heap.size
 os : w'.os = w.os
 tape : D0 w' w
 output : w'.output = w.output
 gw : ∀ b, b < w.heap.size → (∀ id o l, S.get id = some o → S.lim ≤ id → g.ph id = some l → l.bO ≠ b) → w'.heap[b]? = w.heap[b]?
 own : ∀ id o l, S'.get id = some o → S.lim ≤ id → g'.ph id = some l → l.bO < w.heap.size → ∃ id0 o0 l0, S.get id0 = some o0 ∧ S.lim ≤ id0 ∧ g.ph id0 = some l0 ∧ l0.bO = l.bO
 mJ : Gh.le g g'
 nx : S.nx ≤ S'.nx
 lim : S'.lim = S.lim
 rM : ∀ id, id < S.lim → S'.get id = S.get id
 qN : ∀ id, id < S.nx → g'.ph id = g.ph id
 vl : ∀ b c, g'.ro b = some c → b < w.heap.size → g.ro b = some c ∨ ∃ id0 o0 l0, S.get id0 = some o0 ∧ S.lim ≤ id0 ∧ g.ph id0 = some l0 ∧ l0.bO = b
 dead : ∀ id, id < S.nx → S.get id = none → S'.get id = none
 fz : ∀ a, a.block < w.heap.size → w'.frozen? a = w.frozen? a
theorem Ext.refl (S:af)(g:Gh)(w:World):Ext S g w S g w:=
 ⟨Nat.le_refl _,rfl,⟨rfl,Nat.le_refl _⟩,rfl,fun _ _ _=>rfl,fun id o l h h1 h2 _=>⟨id,o,l,h,h1,h2,rfl⟩,Gh.le_refl _,Nat.le_refl _,rfl,fun _ _=>rfl,fun _ _=>rfl,fun _ _ e _=>.inl e,fun _ _ e=>e,fun _ _=>rfl⟩
def wS : Option Obj→Bool
 | some (.cells _ _ (0,0))=>true
 | some (.cells _ _ _)=>false
 | _=>true
variable {w : World}
theorem tC {a:Addr}(h:wS w.heap[a.block]? = true):w.frozen? a=false:=by
 unfold World.frozen?
 generalize w.heap[a.block]? = x at h
 cases x with
 | none=>rfl
 | some ob=>
   cases ob with
   | cells c t fz=>
     obtain⟨lo,hi⟩:=fz
     cases lo with
     | zero=>
       cases hi with
       | zero=>simp
       | succ n=>simp[wS] at h
     | succ n=>simp[wS] at h
   | _=>rfl
theorem rI.wS {g:Gh}{l:Loc}{x:Option Obj}{o:ai}(h:rI g l x o):wS x=true:=by
 cases o with
 | arr sz es=>obtain⟨c,t,h1,_⟩:=h;rw[h1];rfl
 | mp d=>obtain⟨es,k,h1,_⟩:=h;rw[h1];rfl
 | lp st pending fn n mk env params assign body=>obtain⟨lo,h1,_⟩:=h;rw[h1];rfl
 | df o=>have h:x=_:=h;rw[h];rfl
 | si s p=>rw[h.1];rfl
 | mi m since seen=>obtain⟨lm,a,b,c⟩:=h;rw[b];rfl
 | mz=>obtain⟨a,b,c,h,_⟩:=h;rw[h];rfl
variable {w' : World} {b : Nat}
theorem tD (d:wS w.heap[b]? = true)(c:wS w'.heap[b]? = true)(f:∀ k,k≠b→w'.heap[k]? = w.heap[k]?)(a:Addr):w'.frozen? a=w.frozen? a:=by
 by_cases e:a.block=b
 · rw[tC (w:=w) (by rw[e];exact d),tC (w:=w') (by rw[e];exact c)]
 · unfold World.frozen?
   rw[f _ e]
theorem Ext.trans {S L y:af}{g g' z:Gh}{w w' C:World}(h:Ext S g w L g' w')(k:Ext L g' w' y z C):Ext S g w y z C:=by
 refine⟨Nat.le_trans h.size k.size,k.os.trans h.os,D0.trans k.tape h.tape,k.output.trans h.output,?_,?_,Gh.le_trans h.mJ k.mJ,Nat.le_trans h.nx k.nx,k.lim.trans h.lim,?_,?_,?_,fun id aH e=>k.dead id (Nat.lt_of_lt_of_le aH h.nx) (h.dead id aH e),fun a M=>(k.fz a (Nat.lt_of_lt_of_le M h.size)).trans (h.fz a M)⟩
 · intro b f D
   rw[k.gw b (Nat.lt_of_lt_of_le f h.size) ?_,h.gw b f D]
   intro id o l E F G p
   obtain⟨d,o0,r,t,u,v,m⟩:=h.own id o l E (h.lim▸F) G (p▸f)
   exact D d o0 r t u v (m.trans p)
 · intro id o l E F G p
   obtain⟨d,o0,r,t,u,v,m⟩:=k.own id o l E (h.lim.symm▸F) G (Nat.lt_of_lt_of_le p h.size)
   obtain⟨n,o1,l1,H,I,J,K⟩:=h.own d o0 r t (h.lim▸u) v (m▸p)
   exact⟨n,o1,l1,H,I,J,K.trans m⟩
 · intro id aH
   rw[k.rM id (h.lim.symm▸aH),h.rM id aH]
 · intro id aH
   rw[k.qN id (Nat.lt_of_lt_of_le aH h.nx),h.qN id aH]
 · intro b c e f
   rcases k.vl b c e (Nat.lt_of_lt_of_le f h.size) with q | ⟨d,o0,r,t,u,v,m⟩
   · exact h.vl b c q f
   · obtain⟨n,o1,l1,H,I,J,K⟩:=h.own d o0 r t (h.lim▸u) v (m▸f)
     exact .inr ⟨n,o1,l1,H,I,J,K.trans m⟩
def Gh.add (g:Gh)(id:Nat)(l:Loc):Gh:={ g with ph:=fun k=>if k=id then some l else g.ph k }
theorem Gh.add_same (g:Gh)(id:Nat)(l:Loc):(g.add id l).ph id=some l:=by simp[Gh.add]
variable {id : Nat}
theorem Gh.eu (g:Gh)(l:Loc)(h:k≠id):(g.add id l).ph k=g.ph k:=by simp[Gh.add,h]
theorem Gh.LD (l:Loc)(h:g.ph id=none):Gh.le g (g.add id l):=
 ⟨fun _ _ e=>e,fun k x e=>by rw[Gh.eu];exact e;rintro rfl;rw[h] at e;simp at e⟩
variable {l : Loc} {S : af}
theorem Inv.BL (h:Inv S g w)(e:g.ph id=some l):id<S.nx:=by
 rcases Nat.lt_or_ge id S.nx with k | k
 · exact k
 · rw[h.fresh id k] at e;simp at e
theorem Inv.iZ (h:Inv S g w)(e:S.get id=some o):id<S.nx:=
 let ⟨_,c,_,_⟩:=h.ob id o e;h.BL c
theorem Inv.Ll (h:Inv S g w){c:Array Value}(e:g.ro b=some c):b<w.heap.size:=by
 obtain⟨t,fz,hh⟩:=h.ro b c e
 exact(Array.getElem?_eq_some_iff.1 hh).1
theorem rI.lt (h:rI g l w.heap[l.bO]? o):l.bO<w.heap.size:=by
 obtain⟨y,c⟩:=h.some
 exact(Array.getElem?_eq_some_iff.1 c).1
theorem Inv.alloc (h:Inv S g w)(m:Ok S.nx){ob:Obj}(J:l.bO=w.heap.size)(C:rI g l (some ob) o)(hh:w'.heap=w.heap.push ob)(G:w'.os=w.os)(M:D0 w' w)(H:w'.output=w.output)(L:S.lim≤S.nx) :
   Inv (S.add o) (g.add S.nx l) w' ∧ Ext S g w (S.add o) (g.add S.nx l) w' := by
 have N:=h.fresh S.nx (Nat.le_refl _)
 have z:Gh.le g (g.add S.nx l):=Gh.LD l N
 have f:∀ b,b<w.heap.size→w'.heap[b]? = w.heap[b]? := by
   intro b E;rw[hh,Array.getElem?_push,if_neg (by omega)]
 have r:w'.heap[w.heap.size]? = some ob:=by rw[hh,Array.getElem?_push,if_pos rfl]
 have I:g.ro w.heap.size=none:=by
   cases e:g.ro w.heap.size with
   | none=>rfl
   | some c=>exact absurd (h.Ll e) (by omega)
 refine⟨⟨?_,?_,?_,?_⟩,⟨?_,G,M,H,?_,?_,z,?_,rfl,?_,fun k K=>Gh.eu _ _ (by omega),fun _ _ e _=>.inl e,fun id aH e=>by rw[af.dj m (by omega)];exact e,fun a _=>tD (b:=w.heap.size) (by rw[Array.getElem?_eq_none (Nat.le_refl _)];rfl) (by rw[r];exact C.wS) (fun k K=>by rw[hh,Array.getElem?_push,if_neg K]) a⟩⟩
 · intro b c e
   obtain⟨t,fz,O⟩:=h.ro b c e
   exact⟨t,fz,(f b (h.Ll e)).trans O⟩
 · intro id P e
   by_cases aH:id=S.nx
   · subst aH
     rw[af.kW m] at e
     simp only[an] at e
     subst e
     refine⟨l,Gh.add_same _ _ _,?_,?_⟩
     · rw[J];exact I
     · rw[J,r];exact C.mono z
   · rw[af.dj m aH] at e
     obtain⟨l', n,p,q⟩:=h.ob id P e
     refine⟨l', (Gh.eu _ _ aH).trans n,p,?_⟩
     rw[f _ q.lt]
     exact q.mono z
 · intro id D o1 o2 l1 l2 n p u v E
   by_cases aH:id=S.nx<;>by_cases d:D=S.nx
   · rw[aH,d]
   · exfalso
     subst aH
     rw[Gh.add_same] at u;rw[Gh.eu _ _ d] at v;rw[af.dj m d] at p
     obtain⟨l', y,_,F⟩:=h.ob _ _ p
     rw[v] at y;simp only[an] at y u;subst y;subst u
     have:=F.lt;omega
   · exfalso
     subst d
     rw[Gh.add_same] at v;rw[Gh.eu _ _ aH] at u;rw[af.dj m aH] at n
     obtain⟨l', y,_,F⟩:=h.ob _ _ n
     rw[u] at y;simp only[an] at y v;subst y;subst v
     have:=F.lt;omega
   · rw[Gh.eu _ _ aH] at u;rw[Gh.eu _ _ d] at v
     rw[af.dj m aH] at n;rw[af.dj m d] at p
     exact h.inj id D o1 o2 l1 l2 n p u v E
 · intro id aH
   have d:S.nx+1≤id:=aH
   rw[Gh.eu _ _ (by omega)]
   exact h.fresh id (by omega)
 · rw[hh,Array.size_push];omega
 · intro b E _;exact f b E
 · intro id o1 l1 n p q Q
   by_cases aH:id=S.nx
   · subst aH;rw[Gh.add_same] at q;simp only[an] at q;subst q;omega
   · rw[af.dj m aH] at n;rw[Gh.eu _ _ aH] at q
     exact⟨id,o1,l1,n,p,q,rfl⟩
 · show S.nx≤S.nx+1;omega
 · intro id aH;exact af.dj m (by omega)
variable {o' : ai} {ob' : Obj}
theorem Inv.jB (h:Inv S g w)(aH:S.get id=some o)(q:S.lim≤id)(r:g.ph id=some l)(W:w'.heap.size=w.heap.size)(J:w'.heap[l.bO]? = some ob')(u:∀ k,k≠l.bO→w'.heap[k]? = w.heap[k]?)(z:w'.os=w.os)(N:D0 w' w)(C:w'.output=w.output)(p:rI g l (some ob') o') :
   Inv (S.set id o') g w' ∧ Ext S g w (S.set id o') g w' := by
 have hi:=af.dG aH
 obtain⟨X,y,K,O⟩:=h.ob id o aH
 rw[r] at y;simp only[an] at y;subst y
 refine ⟨⟨?_,?_,?_,?_⟩,⟨?_,z,N,C,?_,?_,Gh.le_refl _,Nat.le_refl _,rfl,?_,fun _ _=>rfl,fun _ _ e _=>.inl e,fun d _ e=>by
   rw[af.ar hi (by rintro rfl;rw[aH] at e;simp at e)];exact e,fun a _=>tD (b:=l.bO) O.wS (by rw[J];exact p.wS) u a⟩⟩
 · intro b c e
   obtain⟨t,fz,P⟩:=h.ro b c e
   refine⟨t,fz,(u b ?_).trans P⟩
   rintro rfl;rw[K] at e;simp at e
 · intro d L e
   by_cases f:d=id
   · subst f
     rw[af.bn hi] at e;simp only[an] at e;subst e
     exact⟨l,r,K,by rw[J];exact p⟩
   · rw[af.ar hi f] at e
     obtain⟨l', m,n,v⟩:=h.ob d L e
     refine⟨l', m,n,?_⟩
     rw[u];exact v
     intro Q;exact f (h.inj d id L o l' l e aH m r Q)
 · intro a b o1 o2 l1 l2 m n R T D
   have key:∀ k o1,(S.set id o').get k=some o1→∃ o2,S.get k=some o2:=by
     intro k o1 e
     by_cases f:k=id
     · subst f;exact⟨o,aH⟩
     · rw[af.ar hi f] at e;exact⟨o1,e⟩
   obtain⟨E,F⟩:=key a o1 m
   obtain⟨G,H⟩:=key b o2 n
   exact h.inj a b E G l1 l2 F H R T D
 · intro k U;exact h.fresh k U
 · omega
 · intro b V I
   exact u b (fun e=>I id o l aH q r e.symm)
 · intro d o1 l1 m n v Y
   by_cases f:d=id
   · subst f;exact⟨d,o,l1,aH,n,v,rfl⟩
   · rw[af.ar hi f] at m;exact⟨d,o1,l1,m,n,v,rfl⟩
 · intro d M;exact af.ar hi (by omega)
structure af.sub (A B : af) : Prop where
 nx : B.nx = A.nx
 lim : A.lim = B.lim
 get : ∀ id o, A.get id = some o → B.get id = some o
variable {A B : af}
theorem Inv.sub (c:af.sub A B)(h:Inv B g w):Inv A g w:=
 ⟨h.ro,fun id o e=>h.ob id o (c.get id o e),fun id d o o' l l' e f=>h.inj id d o o' l l' (c.get _ _ e) (c.get _ _ f),fun id aH=>h.fresh id (by rw[c.nx];exact aH)⟩
theorem af.CZ (h:Ok id):af.sub (S.del id) S:=
 ⟨rfl,rfl,fun k o e=>by
  by_cases c:k=id
  · subst c;rw[af.fi] at e;simp at e
  · rw[af.bQ h c] at e;exact e⟩
theorem Ext.forget (c:af.sub A B)(d:∀ id,id<B.lim→A.get id=B.get id):Ext B g w A g w:=
 ⟨Nat.le_refl _,rfl,⟨rfl,Nat.le_refl _⟩,rfl,fun _ _ _=>rfl,fun id o l e f h _=>⟨id,o,l,c.get id o e,f,h,rfl⟩,Gh.le_refl _,by rw[c.nx];exact Nat.le_refl _,c.lim,d,fun _ _=>rfl,fun _ _ e _=>.inl e,fun id _ e=>by
  cases q:A.get id with
  | none=>rfl
  | some o=>rw[c.get id o q] at e;simp at e,fun _ _=>rfl⟩
theorem Inv.move (h:Inv S g w)(R:Ok S.nx){l' : Loc}(aH:S.get id=some o)(q:S.lim≤id)(D:g.ph id=some l)(n:l'.bO=l.bO)(hs:w'.heap.size=w.heap.size)(P:w'.heap[l.bO]? = some ob')(J:∀ k,k≠l.bO→w'.heap[k]? = w.heap[k]?)(M:w'.os=w.os)(T:D0 w' w)(N:w'.output=w.output)(H:rI g l' (some ob') o') :
   Inv ((S.del id).add o') (g.add S.nx l') w' ∧ Ext S g w ((S.del id).add o') (g.add S.nx l') w' := by
 have hi:=af.dG aH
 have Y:=h.iZ aH
 have U:=h.fresh S.nx (Nat.le_refl _)
 have z:Gh.le g (g.add S.nx l'):=Gh.LD l' U
 have I:Ok (S.del id).nx:=R
 obtain⟨l0,K,Q,V⟩:=h.ob id o aH
 rw[D] at K;simp only[an] at K;subst K
 have W:((S.del id).add o').get S.nx=some o' := af.kW (s:=S.del id) I
 have L:∀ k,k≠S.nx→((S.del id).add o').get k=(S.del id).get k:=fun k d=>af.dj (s:=S.del id) I d
 have E:∀ k a,k≠S.nx→((S.del id).add o').get k=some a→k≠id∧S.get k=some a:=by
   intro k a d e
   rw[L k d] at e
   by_cases m:k=id
   · subst m;rw[af.fi] at e;simp at e
   · rw[af.bQ hi m] at e;exact⟨m,e⟩
 refine ⟨⟨?_,?_,?_,?_⟩,⟨?_,M,T,N,?_,?_,z,?_,rfl,?_,fun k d=>Gh.eu _ _ (by omega),fun _ _ e _=>.inl e,fun k d e=>by
   rw[L k (by omega)]
   by_cases m:k=id
   · subst m;rw[aH] at e;simp at e
   · rw[af.bQ hi m];exact e,fun a _=>tD (b:=l.bO) V.wS (by rw[P];exact H.wS) J a⟩⟩
 · intro b c e
   obtain⟨t,fz,p⟩:=h.ro b c e
   refine⟨t,fz,(J b ?_).trans p⟩
   rintro rfl
   have:g.ro l.bO=some c:=e
   rw[Q] at this;simp at this
 · intro k a e
   by_cases d:k=S.nx
   · subst d;rw[W] at e;simp only[an] at e;subst e
     refine⟨l', Gh.add_same _ _ _,?_,?_⟩
     · rw[n];exact Q
     · rw[n,P];exact H.mono z
   · obtain⟨m,p⟩:=E k a d e
     obtain⟨l1,r,F,u⟩:=h.ob k a p
     refine⟨l1,(Gh.eu _ _ d).trans r,F,?_⟩
     rw[J];exact u.mono z
     intro X;exact m (h.inj k id a o l1 l p aH r D X)
 · intro a b o1 o2 l1 l2 r F v y C
   by_cases G:a=S.nx<;>by_cases f:b=S.nx
   · rw[G,f]
   · exfalso;subst G
     rw[Gh.add_same] at v;rw[Gh.eu _ _ f] at y
     simp only[an] at v;subst v
     obtain⟨m,p⟩:=E b o2 f F
     exact m (h.inj b id o2 o l2 l p aH y D (C.symm.trans n))
   · exfalso;subst f
     rw[Gh.add_same] at y;rw[Gh.eu _ _ G] at v
     simp only[an] at y;subst y
     obtain⟨m,p⟩:=E a o1 G r
     exact m (h.inj a id o1 o l1 l p aH v D (C.trans n))
   · rw[Gh.eu _ _ G] at v;rw[Gh.eu _ _ f] at y
     exact h.inj a b o1 o2 l1 l2 (E a o1 G r).2 (E b o2 f F).2 v y C
 · intro k d
   have Z:S.nx+1≤k:=d
   rw[Gh.eu _ _ (by omega)];exact h.fresh k (by omega)
 · omega
 · intro b f O
   exact J b (fun e=>O id o l aH q D e.symm)
 · intro k o1 l1 r F u e4
   by_cases d:k=S.nx
   · subst d;rw[Gh.add_same] at u;simp only[an] at u;subst u
     exact⟨id,o,l,aH,q,D,n.symm⟩
   · rw[Gh.eu _ _ d] at u
     exact⟨k,o1,l1,(E k o1 d r).2,F,u,rfl⟩
 · show S.nx≤S.nx+1;omega
 · intro k d
   rw[L k (by omega),af.bQ hi (by omega)]
end
end Go.Eng
namespace Go.Eng
noncomputable section
def nth {α:Type}:List α→Nat→Option α
 | [],_=>none
 | a::_,0=>some a
 | _::l,n+1=>nth l n
variable {α : Type}
theorem gY (l:List α)(n:Nat):nth l n=l[n]? := by
 induction l generalizing n with
 | nil=>simp[nth]
 | cons a l d=>cases n with
   | zero=>simp[nth]
   | succ n=>simp[nth,d]
def IW (P:Program)(t:TypeId):Option Bool:=
 match P.underlying t with
 | some (.struct _)=>some true
 | some (.array _ _)=>some true
 | some _=>some false
 | none=>none
def oK (P:Program)(t:TypeId):Option Nat:=
 match P.info? t with
 | some i=>some i.size
 | none=>none
section
variable {P : Program} {w : World}
variable {t : TypeId}
theorem ag {d:TypeDesc}(h:P.underlying t=some d):(underlying t).run P w=.ok d w:=by
 simp[underlying,h]
theorem cK {i:TypeInfo}(h:P.info? t=some i):(typeInfo t).run P w=.ok i w:=by
 simp[typeInfo,h]
theorem nF {b:Bool}(h:IW P t=some b):(isAgg t).run P w=.ok b w:=by
 unfold IW at h
 split at h<;>simp only[an,reduceCtorEq] at h
 · rename_i a;subst h;simp[isAgg,ag a]
 · rename_i a;subst h;simp[isAgg,ag a]
 · rename_i d h1 h2 a
   subst h
   simp only[isAgg,Sem.run_bind,ag a,Result.andThen_ok]
   cases d<;>first | rfl | exact absurd rfl (h1 _) | exact absurd rfl (h2 _ _) | exact(h1 _ rfl).elim | exact(h2 _ _ rfl).elim
variable {n : Nat}
theorem run_sizeOf (h:oK P t=some n):(sizeOf t).run P w=.ok n w:=by
 unfold oK at h
 split at h<;>simp only[an,reduceCtorEq] at h
 rename_i i hi
 subst h
 simp[sizeOf,cK hi]
end
theorem Addr.mR (b o n:Nat):(⟨b,o,none⟩:Addr).add n=⟨b,o+n,none⟩:=by
 unfold Addr.add
 split
 · rename_i h;subst h;simp
 · simp
variable {t : TypeId} {w : World} {b o : Nat} {c : Array Value} {fz : Nat × Nat} {x : Value}
theorem cell_of (h:w.heap[b]? = some (.cells c t fz))(hx:c[o]? = some x):w.cell? ⟨b,o,none⟩=some x:=by
 simp[World.cell?, h,hx]
variable {P : Program}
theorem run_loadCellsFrom (h:w.heap[b]? = some (.cells c t fz)):∀(n i:Nat) (a:Array Value),
   o+i+n≤c.size→(loadCellsFrom ⟨b,o,none⟩ i n a).run P w=.ok (a++(c.extract (o+i) (o+i+n))) w:=by
 intro n
 induction n with
 | zero=>
   intro i a d
   have:c.extract (o+i) (o+i+0) = #[]:=by apply Array.ext';simp
   rw[this];simp[loadCellsFrom]
 | succ n e=>
   intro i a d
   have hx:c[o+i]? = some c[o+i]:=AT (by omega)
   have f:w.cell? ⟨b,o+i,none⟩=some c[o+i]:=cell_of h hx
   simp only[loadCellsFrom,Sem.run_bind,Addr.mR,run_load,f,Result.andThen_ok]
   rw[e (i+1) _ (by omega)]
   congr 1
   apply Array.ext'
   simp only[Array.toList_append,Array.toList_push,Array.toList_extract]
   rw[List.append_assoc]
   congr 1
   have j:o+(i+1)+n-(o+(i+1))=n:=by omega
   have k:o+i+(n+1)-(o+i)=n+1:=by omega
   simp only[List.extract_eq_take_drop] at *
   rw[j,k]
   rw [show c.toList.drop (o+i)=c[o+i]::c.toList.drop (o+i+1) from by
    rw[List.drop_eq_getElem_cons (by simp;omega)];simp]
   simp[Nat.add_assoc]
variable {n : Nat}
theorem run_loadCells (h:w.heap[b]? = some (.cells c t fz))(a:o+n≤c.size) :
  (loadCells ⟨b,o,none⟩ n).run P w=.ok (c.extract o (o+n)) w:=by
 have:=run_loadCellsFrom (P:=P) h n 0 #[] (by simpa using a)
 simpa [loadCells] using this
def uK (g:Gh)(cs:List AV)(c:Array Value)(o:Nat):Prop:=o+cs.length≤c.size∧∀(j:Nat) (a:AV) (x:Value),cs[j]? = some a→c[o+j]? = some x→VR g a x
theorem uK.drop {g:Gh}{cs:List AV}{c:Array Value}{o:Nat}(h:uK g cs c o){k:Nat}(f:k≤cs.length):uK g (cs.drop k) c (o+k):=by
 refine⟨by have:=h.1;simp;omega,fun j a x e d=>?_⟩
 rw[List.getElem?_drop] at e
 exact h.2 (k+j) a x e (by rw[←d];congr 1;omega)
variable {g : Gh} {cs : List AV}
theorem uK.aqk (h:uK g cs c o)(f:n≤cs.length):fe g (cs.take n) (c.extract o (o+n)):=by
 refine⟨by have:=h.1;simp;omega,fun k a x e d=>?_⟩
 rw[List.getElem?_take] at e
 split at e
 · rw[Array.getElem?_extract] at d
   split at d
   · exact h.2 k a x e d
   · simp at d
 · simp at e
def jl (S:af):AV→Option (List AV)
 | .ptr id i j=>match S.get id with
   | some (.arr _ es)=>match nth es i with
     | some e=>match Nat.ble j e.cells.length with
       | true=>some (e.cells.drop j)
       | false=>none
     | none=>none
   | _=>none
 | .fa cs=>some cs
 | _=>none
variable {S : af} {v : AV}
theorem tG (hi:Inv S g w)(h:jl S v=some cs)(u:VR g v x) :
   ∃ b o c t fz,x=.pointer (some ⟨b,o,none⟩)∧w.heap[b]? = some (.cells c t fz)∧uK g cs c o:=by
 unfold jl at h
 split at h
 · rename_i id i j
   split at h<;>try (simp at h;done)
   rename_i sz es A
   split at h<;>try (simp at h;done)
   rename_i e m
   rw[gY] at m
   split at h<;>simp only[an,reduceCtorEq] at h
   rename_i B
   subst h
   cases u with
   | ptr C=>
     rename_i l
     obtain⟨l', h1,h2,h3⟩:=hi.ob _ _ A
     rw[C] at h1;simp only[an] at h1;subst h1
     obtain⟨c,t,D,I,z,J,E,F⟩:=h3
     have p:=ed B
     refine⟨l.bO,_,c,t,_,rfl,D,?_⟩
     have d:=E e (sq m)
     have s:i<es.length:=(List.getElem?_eq_some_iff.1 m).1
     have f:l.base+i*l.sz+e.cells.length≤c.size:=by
      rw[d,z]
      have:i*sz+sz≤es.length*sz:=by
       have:(i+1)*sz≤es.length*sz:=ue _ s
       rw[Nat.succ_mul] at this;exact this
      omega
     have:uK g e.cells c (l.base+i*l.sz):=⟨f,fun k a y q r=>F i k e a y m q (by rw[←z];exact r)⟩
     exact this.drop p
 · cases u with
   | fa G H hh=>
     simp only[an] at h;subst h
     obtain⟨t,fz,e⟩:=hi.ro _ _ G
     exact⟨_,_,_,t,fz,rfl,e,H,hh⟩
 · simp at h
def ma (P:Program)(t:TypeId)(cs:List AV):Option AV:=
 match IW P t with
 | some true=>match oK P t with
   | some n=>match Nat.ble n cs.length with
     | true=>some (.agg (cs.take n))
     | false=>none
   | none=>none
 | some false=>nth cs 0
 | none=>none
theorem wj (hi:Inv S g w){r:AV}(h:jl S v=some cs)(a:ma P t cs=some r)(k:VR g v x) :
   ∃ y,(Instr.loadAt t x).run P w=.ok y w∧VR g r y:=by
 obtain⟨b,o,c,p,fz,rfl,j,e⟩:=tG hi h k
 unfold ma at a
 split at a
 · rename_i f
   split at a<;>try (simp at a;done)
   rename_i n l
   split at a<;>simp only[an,reduceCtorEq] at a
   rename_i d
   have d:=ed d
   subst a
   refine⟨.agg (c.extract o (o+n)),?_,?_⟩
   · simp only[Instr.loadAt,Instr.sureAddr,Sem.run_bind,Sem.run_pure,Result.andThen_ok,loadVar,nF f,if_true,run_sizeOf l]
     rw[run_loadCells j (by have:=e.1;omega)]
     rfl
   · exact .agg (e.aqk d).1 (e.aqk d).2
 · rename_i f
   rw[gY] at a
   have m:0<cs.length:=(List.getElem?_eq_some_iff.1 a).1
   have i:o<c.size:=by have:=e.1;omega
   have hx:c[o]? = some c[o]:=AT i
   refine⟨c[o],?_,e.2 0 r _ a (by simp)⟩
   simp only[Instr.loadAt,Instr.sureAddr,Sem.run_bind,Sem.run_pure,Result.andThen_ok,loadVar,nF f,Bool.false_eq_true,if_false,run_load,cell_of j hx]
 · simp at a
def cV : AV→Bool
 | .agg _=>false
 | .bM _=>false
 | .top=>false
 | _=>true
theorem mU (h:cV v=true)(a:VR g v x):x.oneCell' = true:=by
 cases a with
 | sc d=>cases x<;>first | rfl | simp[D5] at d
 | agg=>simp[cV] at h
 | bM=>simp[cV] at h
 | top=>simp[cV] at h
 | _=>rfl
def jF {α:Type}:List α→Nat→List α→List α
 | l,_,[]=>l
 | [],_,_=>[]
 | _::l,0,y::ys=>y::jF l 0 ys
 | a::l,n+1,ys=>a::jF l n ys
theorem fB (l:List α)(n:Nat)(ys:List α):(jF l n ys).length=l.length:=by
 induction l generalizing n ys with
 | nil=>cases ys<;>rfl
 | cons a l d=>cases ys with
   | nil=>rfl
   | cons y ys=>cases n<;>simp[jF,d]
theorem gG (l:List α)(n:Nat)(ys:List α)(d:n+ys.length≤l.length)(k:Nat):(jF l n ys)[k]? = if n≤k∧k<n+ys.length then ys[k-n]? else l[k]? := by
 induction l generalizing n ys k with
 | nil=>cases ys<;>simp_all [jF]
 | cons a l e=>cases ys with
   | nil=>simp[jF];intro h f;omega
   | cons y ys=>
     cases n with
     | zero=>cases k with
       | zero=>simp[jF]
       | succ k=>
         simp only[jF,List.getElem?_cons_succ]
         rw[e 0 ys (by simp at d;omega)]
         simp
     | succ n=>cases k with
       | zero=>simp[jF]
       | succ k=>
         simp only[jF,List.getElem?_cons_succ]
         rw[e n (y::ys) (by simp at d ⊢;omega)]
         simp only[List.length_cons]
         by_cases h:n≤k∧k<n+(ys.length+1)
         · rw[if_pos h,if_pos (by omega)];congr 1;omega
         · rw[if_neg h,if_neg (by omega)]
def YB : List AV→AV
 | [v]=>match cV v with
   | true=>v
   | false=>.agg [v]
 | l=>.agg l
theorem B2 (l:List AV):(YB l).cells=l:=by
 cases l with
 | nil=>rfl
 | cons v r=>
   cases r with
   | nil=>
     show(match cV v with | true=>v | false=>AV.agg [v]).cells=[v]
     cases a:cV v with
     | false=>rfl
     | true=>cases v<;>first | rfl | simp[cV] at a
   | cons u r=>rfl
def re (P:Program)(S:af)(t:TypeId)(p v:AV):Option af:=
 match p with
 | .ptr id i j=>match S.get id with
   | some (.arr sz es)=>match nth es i with
     | some e=>match oK P t with
       | some n=>match Nat.beq v.cells.length n&&Nat.ble (j+n) e.cells.length&&v.cells.all cV&&Nat.ble S.lim id with
         | true=>some (S.set id (.arr sz (es.set i (YB (jF e.cells j v.cells)))))
         | false=>none
       | none=>none
     | none=>none
   | _=>none
 | _=>none
theorem jq (h:VR g v x)(f:v.cells.all cV=true):fe g v.cells x.cells:=by
 have one:∀ {u:AV} {y:Value},VR g u y→fe g [u] #[y]:=by
   intro u y j
   exact fe.cons (xs:=[]) j ⟨rfl,by simp⟩
 cases h with
 | agg i h=>exact⟨i,h⟩
 | sc h=>
   have:Value.cells x = #[x]:=by cases x<;>first | rfl | simp[D5] at h
   rw[this];exact one (.sc h)
 | bM i h=>simp[AV.cells,cV] at f
 | top=>simp[AV.cells,cV] at f
 | dV=>exact one .dV
 | ax=>exact one .ax
 | fI a b=>exact one (.fI a b)
 | lit a b c d e=>exact one (.lit a b c d e)
 | gi=>exact one .gi
 | fa a b c=>exact one (.fa a b c)
 | ptr a=>exact one (.ptr a)
 | ak a b c=>exact one (.ak a b c)
 | dm a=>exact one (.dm a)
 | fn a b c d=>exact one (.fn a b c d)
 | eS a=>exact one (.eS a)
 | clip a=>exact one (.clip a)
 | nU a=>exact one (.nU a)
theorem mZ (d:List Value):∀(w:World) (c:Array Value) (i:Nat),w.heap[b]? = some (.cells c t (0,0))→o+i+d.length≤c.size→(∀ x,x∈d→x.oneCell' = true) →
   ∃ w', (storeCells ⟨b,o,none⟩ d i).run P w=.ok () w' ∧ w'.heap[b]? = some (.cells (jF c.toList (o+i) d).toArray t (0,0))∧(∀ k,k≠b→w'.heap[k]? = w.heap[k]?)∧w'.heap.size=w.heap.size ∧
     w'.os=w.os∧D0 w' w∧w'.output=w.output:=by
 induction d with
 | nil=>
   intro w c i h _ _
   refine⟨w,by simp[storeCells],?_,fun _ _=>rfl,rfl,rfl,⟨rfl,Nat.le_refl _⟩,rfl⟩
   have:jF c.toList (o+i) []=c.toList:=by cases c.toList<;>rfl
   rw[this];simpa using h
 | cons v d q=>
   intro w c i h a p
   have f:o+i<c.size:=by simp at a;omega
   have hx:c[o+i]? = some c[o+i]:=AT f
   have r:w.cell? ⟨b,o+i,none⟩=some c[o+i]:=cell_of h hx
   have s:w.frozen? ⟨b,o+i,none⟩=false:=by simp[World.frozen?, h]
   have u:v.oneCell' = true:=p v (by simp)
   have l:(w.setCell ⟨b,o+i,none⟩ v).heap[b]? = some (.cells (c.setIfInBounds (o+i) v) t (0,0)):=by
     simp[World.setCell,Array.getElem?_modify,h]
   obtain⟨w', h1,h2,h3,h4,h5,h6,h7⟩:=q (w.setCell ⟨b,o+i,none⟩ v) (c.setIfInBounds (o+i) v) (i+1) l (by simp at a ⊢;omega) (fun x hx=>p x (by simp[hx]))
   refine⟨w', ?_,?_,?_,?_,h5,h6,h7⟩
   · simp only[storeCells,Sem.run_bind,Addr.mR,run_store P w _ v _ u,r,s,Bool.false_eq_true,if_false,Result.andThen_ok]
     exact h1
   · rw[h2]
     congr 3
     apply List.ext_getElem?
     intro k
     rw[gG _ _ _ (by simp at a ⊢;omega),gG _ _ _ (by simp at a ⊢;omega)]
     simp only[Array.toList_setIfInBounds,List.getElem?_set,List.length_cons,Array.length_toList]
     by_cases m:k=o+i
     · subst m
       rw[if_neg (by omega),if_pos rfl,if_pos f,if_pos (by omega)]
       simp
     · by_cases j:o+(i+1)≤k∧k<o+(i+1)+d.length
       · rw[if_pos j,if_pos (by omega)]
         rw[show k-(o+i)=(k-(o+(i+1)))+1 from by omega,List.getElem?_cons_succ]
       · rw[if_neg j,if_neg (by omega),if_neg (by omega)]
   · intro k m
     rw[h3 k m]
     simp only[World.setCell,Array.getElem?_modify]
     rw[if_neg (fun e=>m e.symm)]
   · rw[h4];simp
theorem Bg {L:af}(hi:Inv S g w){p:AV}{y:Value}(h:re P S t p v=some L)(Y:VR g p x)(Z:VR g v y) :
   ∃ w', (Instr.storeAt t x y).run P w=.ok () w' ∧ Inv L g w' ∧ Ext S g w L g w' := by
 unfold re at h
 split at h<;>try (simp at h;done)
 rename_i id i j
 split at h<;>try (simp at h;done)
 rename_i sz es T
 split at h<;>try (simp at h;done)
 rename_i e J
 rw[gY] at J
 split at h<;>try (simp at h;done)
 rename_i n hn
 split at h<;>simp only[an,reduceCtorEq] at h
 rename_i s
 subst h
 simp only[Bool.and_eq_true] at s
 obtain⟨⟨⟨h1,h2⟩,h3⟩,h4⟩:=s
 have h1:v.cells.length=n:=jj h1
 have h2:=ed h2
 have h4:=ed h4
 cases Y with
 | ptr U=>
   rename_i l
   obtain⟨l', M,q2,q3⟩:=hi.ob _ _ T
   rw[U] at M;simp only[an] at M;subst M
   obtain⟨c,V,p1,p2,u,p4,N,W⟩:=q3
   have r:=N e (sq J)
   have F:i<es.length:=(List.getElem?_eq_some_iff.1 J).1
   have X:i*sz+sz≤es.length*sz:=by
     have:(i+1)*sz≤es.length*sz:=ue _ F
     rw[Nat.succ_mul] at this;exact this
   have f:=jq Z h3
   have I:∀ z,z∈y.cells.toList→z.oneCell' = true:=by
     intro z hz
     obtain⟨k,hk⟩:=List.getElem?_of_mem hz
     have G:y.cells[k]? = some z:=by simpa using hk
     have H:k<v.cells.length:=by rw[f.1];exact(Array.getElem?_eq_some_iff.1 G).1
     have ha:v.cells[k]? = some v.cells[k]:=nA H
     exact mU (List.all_eq_true.1 h3 _ (List.getElem_mem H)) (f.2 k _ z ha G)
   have B:y.cells.toList.length=n:=by rw[←h1,f.1];simp
   obtain⟨w', r1,r2,r3,r4,r5,r6,r7⟩:=mZ (P:=P) (b:=l.bO) (o:=l.base+i*l.sz+j) (t:=V) y.cells.toList w c 0 p1 (by rw[B,u];omega) I
   refine⟨w', ?_,?_⟩
   · simp only[Instr.storeAt,Instr.sureAddr,Sem.run_bind,Sem.run_pure,Result.andThen_ok,storeVar,run_sizeOf hn]
     rw[if_neg (by rw[←h1,f.1];simp)]
     exact r1
   · refine hi.jB T h4 U r4 r2 r3 r5 r6 r7 ?_
     refine⟨_,V,rfl,?_,u,?_,?_,?_⟩
     · simp[fB,p2]
     · simp[fB];exact p4
     · intro K O
       rcases List.mem_or_eq_of_mem_set O with hm | hm
       · exact N K hm
       · subst hm;rw[B2,fB];exact r
     · intro E d K a z A m q
       rw[List.getElem?_toArray,gG _ _ _ (by rw[B,u];simp;omega),B] at q
       rw[List.getElem?_set] at A
       by_cases C:i=E
       · subst C
         rw[if_pos rfl,if_pos F] at A
         simp only[an] at A
         subst A
         rw[B2,gG _ _ _ (by rw[h1];exact h2),h1] at m
         have Q:d<sz:=by
           by_cases s:j≤d∧d<j+n
           · omega
           · rw[if_neg s] at m;rw[←r];exact(List.getElem?_eq_some_iff.1 m).1
         by_cases s:j≤d∧d<j+n
         · rw[if_pos s] at m
           rw[if_pos (by rw[u];omega)] at q
           have e1:l.base+i*sz+d-(l.base+i*l.sz+j+0)=d-j:=by rw[u];omega
           rw[e1] at q
           exact f.2 _ a z m (by simpa using q)
         · rw[if_neg s] at m
           rw[if_neg (by rw[u];omega)] at q
           exact W i d e a z J m (by simpa using q)
       · rw[if_neg C] at A
         have Q:d<sz:=by rw[←N K (sq A)];exact(List.getElem?_eq_some_iff.1 m).1
         have R:¬ (l.base+i*l.sz+j+0≤l.base+E*sz+d∧l.base+E*sz+d<l.base+i*l.sz+j+0+n):=by
           rw[u]
           rintro⟨c1,c2⟩
           rcases Nat.lt_or_gt_of_ne C with D | D
           · have:(i+1)*sz≤E*sz:=ue _ D
             rw[Nat.succ_mul] at this;omega
           · have:(E+1)*sz≤i*sz:=ue _ D
             rw[Nat.succ_mul] at this;omega
         rw[if_neg R] at q
         exact W E d K a z A m (by simpa using q)
end
end Go.Eng
namespace Go.Eng
noncomputable section
def GC (op:BinOp)(k:IntKind)(a b:Int):Option Value:=
 match op with
 | .add=>some (.int k (k.wrap (a+b)))
 | .sub=>some (.int k (k.wrap (a-b)))
 | .mul=>some (.int k (k.wrap (a*b)))
 | .quo=>if b=0 then none else some (.int k (k.wrap (a.tdiv b)))
 | .rem=>if b=0 then none else some (.int k (a.tmod b))
 | .and=>some (.int k (k.wrap (BitVec.ofInt k.bits a &&& BitVec.ofInt k.bits b).toNat))
 | .or=>some (.int k (k.wrap (BitVec.ofInt k.bits a ||| BitVec.ofInt k.bits b).toNat))
 | .xor=>some (.int k (k.wrap (BitVec.ofInt k.bits a ^^^ BitVec.ofInt k.bits b).toNat))
 | .andNot=>some (.int k (k.wrap (BitVec.ofInt k.bits a &&& ~~~BitVec.ofInt k.bits b).toNat))
 | .eql=>some (.bool (a==b))
 | .neq=>some (.bool (a != b))
 | .lss=>some (.bool (decide (a<b)))
 | .leq=>some (.bool (decide (a≤b)))
 | .gtr=>some (.bool (decide (a>b)))
 | .geq=>some (.bool (decide (a≥b)))
 | _=>none
def zP (op:BinOp)(k:IntKind)(a b:Int):Option Value:=
 if b<0 then none else
 match op with
 | .shl=>some (.int k (k.wrap (a*2 ^ (min b.toNat k.bits))))
 | .shr=>some (.int k (a.fdiv (2 ^ (min b.toNat k.bits))))
 | _=>none
section
variable {P : Program} {w : World}
variable {op : BinOp} {t : TypeId} {k : IntKind} {b : Int} {v : Value}
theorem GX {a:Int}(h:GC op k a b=some v):(binOp op t (.int k a) (.int k b)).run P w=.ok v w:=by
 cases op<;>simp only[GC,an,reduceCtorEq] at h <;>
  first
   | (subst h;simp[binOp,Op.intArith,Op.intCmp,Op.intBits];done)
   | (split at h
      · simp at h
      · rename_i c;simp only[an] at h;subst h;simp[binOp,Op.intDiv,c])
variable {k' : IntKind}
theorem Dh {a:Int}(h:zP op k a b=some v):(binOp op t (.int k a) (.int k' b)).run P w=.ok v w:=by
 unfold zP at h
 split at h
 · simp at h
 · rename_i c
   cases op<;>simp only[an,reduceCtorEq] at h<;>(subst h;simp[binOp,Op.shift,c])
theorem sV {x y:Operand}{a:Int}:(eqGuard op t x y (.int k a) (.int k' b)).run P w=.ok () w:=by
 unfold eqGuard;split<;>simp
end
def OJ : BinOp→Bool
 | .shl=>true
 | .shr=>true
 | _=>false
def NK (P:Program)(t:TypeId)(a b:Value):Option Bool:=
 match P.underlying t,a,b with
 | some (.int _),.int k x,.int k' y=>if k=k' then some (x==y) else none
 | some .bool,.bool x,.bool y=>some (x==y)
 | some .string,.string x,.string y=>some (x.data.toList==y.data.toList)
 | _,_,_=>none
variable {t : TypeId} {P : Program} {w : World} {d : Nat}
theorem Ex {a b:Value}{r:Bool}(h:NK P t a b=some r):(Op.equalIn (d+1) t a b).run P w=.ok r w:=by
 unfold NK at h
 split at h
 · rename_i c
   split at h<;>simp only[an,reduceCtorEq] at h
   rename_i i;subst i;subst h
   exact run_equalIn_int w d t _ _ _ _ c
 · rename_i c
   simp only[an] at h;subst h
   exact run_equalIn_bool' w d t _ _ c
 · rename_i c
   simp only[an] at h;subst h
   rw[run_equalIn_string w d t _ _ c,ByteArray.toList_eq,ByteArray.toList_eq]
 · simp at h
def Gm (P : Program) : List Field → List AV → List AV → Option Bool
 | [], _, _ => some true
 | f :: fs, xs, ys => if f.name ≠ "_" ∧ IW P f.type = some false then
    match nth xs f.offset, nth ys f.offset with
    | some (.sc a), some (.sc b) => match NK P f.type a b with
      | some true => Gm P fs xs ys
      | some false => some false
      | none => none
    | _, _ => none
   else none
variable {g : Gh}
theorem Ma {xs ys:List AV}{c i:Array Value}(hx:fe g xs c)(p:fe g ys i):∀ {fs:List Field} {r:Bool},Gm P fs xs ys=some r →
   (Op.eqFields (d+1) c i fs).run P w=.ok r w:=by
 intro fs
 induction fs with
 | nil=>intro r h;simp only[Gm,an] at h;subst h;simp[Op.eqFields]
 | cons f fs q=>
   intro r h
   simp only[Gm] at h
   split at h
   · rename_i s
     obtain⟨j,l⟩:=s
     split at h
     · rename_i a b n o
       rw[gY] at n o
       obtain⟨C,u,z⟩:=hx.get n
       obtain⟨D,A,B⟩:=p.get o
       cases z with | sc _=>?_
       cases B with | sc _=>?_
       have k1:(part f.type c f.offset).run P w=.ok a w:=by simp[part,nF l,u]
       have k2:(part f.type i f.offset).run P w=.ok b w:=by simp[part,nF l,A]
       split at h<;>try (simp at h;done)
       · rename_i e
         simp only[Op.eqFields,if_pos j,Sem.run_bind,k1,k2,Result.andThen_ok,Ex e]
         simpa using q h
       · rename_i e
         simp only[an] at h;subst h
         simp only[Op.eqFields,if_pos j,Sem.run_bind,k1,k2,Result.andThen_ok,Ex e]
         simp
     · simp at h
   · simp at h
def LF (op:BinOp)(x y:ByteArray):Option Value:=
 match op with
 | .eql=>some (.bool (x.data.toList==y.data.toList))
 | .neq=>some (.bool (!(x.data.toList==y.data.toList)))
 | .lss=>some (.bool (Op.bytesLess x.data.toList y.data.toList))
 | .leq=>some (.bool (Op.bytesLess x.data.toList y.data.toList||x.data.toList==y.data.toList))
 | .gtr=>some (.bool (!(Op.bytesLess x.data.toList y.data.toList||x.data.toList==y.data.toList)))
 | .geq=>some (.bool (!Op.bytesLess x.data.toList y.data.toList))
 | _=>none
def mM (op:BinOp)(r:Bool):Option AV:=
 match op with
 | .eql=>some (.sc (.bool r))
 | .neq=>some (.sc (.bool (!r)))
 | _=>none
def rO (P:Program)(op:BinOp)(t:TypeId)(a b:AV):Option AV:=
 match a,b with
 | .sc (.int k x),.sc (.int k' y)=>match OJ op with
   | true=>match zP op k x y with
     | some v=>match D5 v with
       | true=>some (.sc v)
       | false=>none
     | none=>none
   | false=>if k=k' then
       match GC op k x y with
       | some v=>match D5 v with
         | true=>some (.sc v)
         | false=>none
       | none=>none
     else none
 | .sc (.bool x),.sc (.bool y)=>match P.underlying t with
   | some .bool=>mM op (x==y)
   | _=>none
 | .sc (.string x),.sc (.string y)=>match LF op x y with
   | some v=>match D5 v with
     | true=>some (.sc v)
     | false=>none
   | none=>none
 | .ptr _ _ _,.sc (.pointer none)=>match P.underlying t with
   | some (.pointer _)=>mM op false
   | _=>none
 | .fa _,.sc (.pointer none)=>match P.underlying t with
   | some (.pointer _)=>mM op false
   | _=>none
 | .sc (.pointer none),.sc (.pointer none)=>match P.underlying t with
   | some (.pointer _)=>mM op true
   | _=>none
 | .eS _ _,.sc .nilIface=>match P.underlying t with
   | some (.interface _)=>mM op false
   | _=>none
 | .ax,.ax=>match P.underlying t with
   | some (.slice _)=>mM op true
   | _=>none
 | .ak _ _ _,.ax=>match P.underlying t with
   | some (.slice _)=>mM op false
   | _=>none
 | .lit (_::_),.ax=>match P.underlying t with
   | some (.slice _)=>mM op false
   | _=>none
 | .fn _ _ _,.sc .nilFunc=>match P.underlying t with
   | some (.func _ _ _)=>mM op false
   | _=>none
 | .nU _,.sc .nilFunc=>match P.underlying t with
   | some (.func _ _ _)=>mM op false
   | _=>none
 | .sc .nilFunc,.sc .nilFunc=>match P.underlying t with
   | some (.func _ _ _)=>mM op true
   | _=>none
 | .dm _,.sc (.map none)=>match P.underlying t with
   | some (.map _ _)=>mM op false
   | _=>none
 | .sc (.map none),.sc (.map none)=>match P.underlying t with
   | some (.map _ _)=>mM op true
   | _=>none
 | .agg xs,.agg ys=>match P.underlying t with
   | some (.struct fs)=>match P.stoodInHeld t||P.eqGuardType P.depth t with
     | false=>match Gm P fs.toList xs ys with
       | some r=>mM op r
       | none=>none
     | true=>none
   | _=>none
 | _,_=>none
variable {op : BinOp} {x y : Value}
theorem fy {r:Bool}{v:AV}(h:mM op r=some v)(c:(Op.equal t x y).run P w=.ok r w)(h1:binOp .eql t x y=(do pure (.bool (←Op.equal t x y))))(h2:binOp .neq t x y=(do pure (.bool (!(←Op.equal t x y))))):∃ z,(binOp op t x y).run P w=.ok z w∧VR g v z:=by
 cases op<;>simp only[mM,an,reduceCtorEq] at h
 · subst h;exact⟨_,by rw[h1];simp[c],.sc rfl⟩
 · subst h;exact⟨_,by rw[h2];simp[c],.sc rfl⟩
variable {e : TypeId}
theorem wo {a:Addr}(c:P.underlying t=some (.pointer e)):(Op.equalIn (d+1) t (.pointer (some a)) (.pointer none)).run P w=.ok false w:=by
 simp[Op.equalIn,ag c]
theorem Di (c:P.underlying t=some (.pointer e)):(Op.equalIn (d+1) t (.pointer none) (.pointer none)).run P w=.ok true w:=by
 simp[Op.equalIn,ag c]
variable {v : Value}
theorem Dj {u:TypeId}{c:Array (String×TypeId)}(h:P.underlying t=some (.interface c)):(Op.equalIn (d+1) t (.iface u v) .nilIface).run P w=.ok false w:=by
 simp[Op.equalIn,ag h]
variable {xs : Array Value}
theorem xG {a b c}{f:Fn}{ys:Array Value}(h:P.underlying t=some (.func a b c)):(Op.equalIn (d+1) t (.func f xs ys) .nilFunc).run P w=.ok false w:=by
 simp[Op.equalIn,ag h]
theorem Mb {a b c}(h:P.underlying t=some (.func a b c)):(Op.equalIn (d+1) t .nilFunc .nilFunc).run P w=.ok true w:=by
 simp[Op.equalIn,ag h]
variable {m : Nat}
theorem Dk {a b:TypeId}(c:P.underlying t=some (.map a b)):(Op.equalIn (d+1) t (.map (some m)) (.map none)).run P w=.ok false w:=by
 simp[Op.equalIn,ag c]
theorem Ji {a b:TypeId}(c:P.underlying t=some (.map a b)):(Op.equalIn (d+1) t (.map none) (.map none)).run P w=.ok true w:=by
 simp[Op.equalIn,ag c]
theorem Bh (c:P.underlying t=some (.slice e)):(Op.equalIn (d+1) t (.slice none 0 0) (.slice none 0 0)).run P w=.ok true w:=by
 simp[Op.equalIn,ag c]
theorem rH {a:Addr}{n:Nat}(c:P.underlying t=some (.slice e)):(Op.equalIn (d+1) t (.slice (some a) m n) (.slice none 0 0)).run P w=.ok false w:=by
 simp[Op.equalIn,ag c]
variable {a r : AV}
theorem Fe {ox oy:Operand}{b:AV}(h:rO P op t a b=some r)(i:VR g a x)(j:VR g b y) :
   ∃ z,(eqGuard op t ox oy x y).run P w=.ok () w∧(binOp op t x y).run P w=.ok z w∧VR g r z:=by
 unfold rO at h
 split at h
 · rename_i k m k' n
   cases i with | sc _=>?_
   cases j with | sc _=>?_
   split at h
   · split at h<;>try (simp at h;done)
     rename_i v e
     split at h<;>simp only[an,reduceCtorEq] at h
     rename_i o;subst h
     exact⟨v,sV,Dh e,.sc o⟩
   · split at h<;>try (simp at h;done)
     rename_i B;subst B
     split at h<;>try (simp at h;done)
     rename_i v e
     split at h<;>simp only[an,reduceCtorEq] at h
     rename_i o;subst h
     exact⟨v,sV,GX e,.sc o⟩
 · cases i with | sc _=>?_
   cases j with | sc _=>?_
   split at h<;>try (simp at h;done)
   rename_i c
   obtain⟨z,p,q⟩:=fy (P:=P) (w:=w) (g:=g) h (run_equalIn_bool' w 9999 t _ _ c) (by simp[binOp]) (by simp[binOp])
   exact⟨z,by unfold eqGuard;split<;>simp,p,q⟩
 · cases i with | sc _=>?_
   cases j with | sc _=>?_
   split at h<;>try (simp at h;done)
   rename_i v e
   split at h<;>simp only[an,reduceCtorEq] at h
   rename_i o;subst h
   refine⟨v,by unfold eqGuard;split<;>simp,?_,.sc o⟩
   cases op<;>simp only[LF,an,reduceCtorEq] at e<;>(subst e;simp[binOp,Op.stringOp,ByteArray.toList_eq])
 · cases j with | sc _=>?_
   cases i with | ptr _=>?_
   split at h<;>try (simp at h;done)
   rename_i c
   have l:=fun a=>wo (P:=P) (w:=w) (d:=9999) (a:=a) c
   obtain⟨z,p,q⟩:=fy (P:=P) (w:=w) (g:=g) h (l _) (by simp[binOp]) (by simp[binOp])
   exact⟨z,by unfold eqGuard;split<;>simp,p,q⟩
 · cases j with | sc _=>?_
   cases i with | fa _ _ _=>?_
   split at h<;>try (simp at h;done)
   rename_i c
   have l:=fun a=>wo (P:=P) (w:=w) (d:=9999) (a:=a) c
   obtain⟨z,p,q⟩:=fy (P:=P) (w:=w) (g:=g) h (l _) (by simp[binOp]) (by simp[binOp])
   exact⟨z,by unfold eqGuard;split<;>simp,p,q⟩
 · cases j with | sc _=>?_
   cases i with | sc _=>?_
   split at h<;>try (simp at h;done)
   rename_i c
   have l:=Di (P:=P) (w:=w) (d:=9999) c
   obtain⟨z,p,q⟩:=fy (P:=P) (w:=w) (g:=g) h l (by simp[binOp]) (by simp[binOp])
   exact⟨z,by unfold eqGuard;split<;>simp,p,q⟩
 · cases j with | sc _=>?_
   cases i with | eS _=>?_
   split at h<;>try (simp at h;done)
   rename_i c
   have l:=fun u v=>Dj (P:=P) (w:=w) (d:=9999) (u:=u) (v:=v) c
   obtain⟨z,p,q⟩:=fy (P:=P) (w:=w) (g:=g) h (l _ _) (by simp[binOp]) (by simp[binOp])
   exact⟨z,by unfold eqGuard;split<;>simp,p,q⟩
 · cases i with | ax=>?_
   cases j with | ax=>?_
   split at h<;>try (simp at h;done)
   rename_i c
   have l:=Bh (P:=P) (w:=w) (d:=9999) c
   obtain⟨z,p,q⟩:=fy (P:=P) (w:=w) (g:=g) h l (by simp[binOp]) (by simp[binOp])
   exact⟨z,by unfold eqGuard;split<;>simp,p,q⟩
 · cases j with | ax=>?_
   split at h<;>try (simp at h;done)
   rename_i c
   have l:=fun a m n=>rH (P:=P) (w:=w) (d:=9999) (a:=a) (m:=m) (n:=n) c
   cases i with
   | ak _ _ _=>
     obtain⟨z,p,q⟩:=fy (P:=P) (w:=w) (g:=g) h (l _ _ _) (by simp[binOp]) (by simp[binOp])
     exact⟨z,by unfold eqGuard;split<;>simp,p,q⟩
   | fI=>
     obtain⟨z,p,q⟩:=fy (P:=P) (w:=w) (g:=g) h (l _ _ _) (by simp[binOp]) (by simp[binOp])
     exact⟨z,by unfold eqGuard;split<;>simp,p,q⟩
 · cases j with | ax=>?_
   split at h<;>try (simp at h;done)
   rename_i c
   have l:=fun a m n=>rH (P:=P) (w:=w) (d:=9999) (a:=a) (m:=m) (n:=n) c
   cases i with
   | lit _ _ _ _ _=>
     obtain⟨z,p,q⟩:=fy (P:=P) (w:=w) (g:=g) h (l _ _ _) (by simp[binOp]) (by simp[binOp])
     exact⟨z,by unfold eqGuard;split<;>simp,p,q⟩
 · cases j with | sc _=>?_
   cases i with | fn _ _ _ _=>?_
   split at h<;>try (simp at h;done)
   rename_i c
   obtain⟨z,p,q⟩:=fy (P:=P) (w:=w) (g:=g) h (xG (d:=9999) c) (by simp[binOp]) (by simp[binOp])
   exact⟨z,by unfold eqGuard;split<;>simp,p,q⟩
 · cases j with | sc _=>?_
   cases i with | nU _=>?_
   split at h<;>try (simp at h;done)
   rename_i c
   obtain⟨z,p,q⟩:=fy (P:=P) (w:=w) (g:=g) h (xG (d:=9999) c) (by simp[binOp]) (by simp[binOp])
   exact⟨z,by unfold eqGuard;split<;>simp,p,q⟩
 · cases j with | sc _=>?_
   cases i with | sc _=>?_
   split at h<;>try (simp at h;done)
   rename_i c
   obtain⟨z,p,q⟩:=fy (P:=P) (w:=w) (g:=g) h (Mb (d:=9999) c) (by simp[binOp]) (by simp[binOp])
   exact⟨z,by unfold eqGuard;split<;>simp,p,q⟩
 · cases j with | sc _=>?_
   cases i with | dm _=>?_
   split at h<;>try (simp at h;done)
   rename_i c
   obtain⟨z,p,q⟩:=fy (P:=P) (w:=w) (g:=g) h (Dk (d:=9999) c) (by simp[binOp]) (by simp[binOp])
   exact⟨z,by unfold eqGuard;split<;>simp,p,q⟩
 · cases j with | sc _=>?_
   cases i with | sc _=>?_
   split at h<;>try (simp at h;done)
   rename_i c
   obtain⟨z,p,q⟩:=fy (P:=P) (w:=w) (g:=g) h (Ji (d:=9999) c) (by simp[binOp]) (by simp[binOp])
   exact⟨z,by unfold eqGuard;split<;>simp,p,q⟩
 · rename_i xs ys
   cases i with | agg l1 h1=>?_
   rename_i C
   cases j with | agg l2 h2=>?_
   rename_i D
   split at h<;>try (simp at h;done)
   rename_i fs c
   split at h<;>try (simp at h;done)
   rename_i s
   rw[Bool.or_eq_false_iff] at s
   split at h<;>try (simp at h;done)
   rename_i r e
   have A:P.fieldsOf t=fs:=by simp[Program.fieldsOf,c]
   have l:(Op.equal t (.agg C) (.agg D)).run P w=.ok r w:=by
     simp only[Op.equal,Op.maxDepth]
     rw[run_equalIn_struct (P:=P) w 9999 t _ _ (by rw[A];exact c) s.1,A]
     exact Ma (d:=9998) ⟨l1,h1⟩ ⟨l2,h2⟩ e
   obtain⟨z,p,q⟩:=fy (P:=P) (w:=w) (g:=g) h l (by simp[binOp]) (by simp[binOp])
   exact⟨z,run_eqGuard_agg w op t ox oy _ _ s.2,p,q⟩
 · simp at h
def KB (op:UnOp)(a:AV):Option AV:=
 match op,a with
 | .not,.sc (.bool b)=>some (.sc (.bool (!b)))
 | .neg,.sc (.int k n)=>some (.sc (.int k (k.wrap (0-n))))
 | _,_=>none
theorem GY {op:UnOp}(h:KB op a=some r)(c:VR g a x):∃ z,(Op.unary op x).run P w=.ok z w∧VR g r z:=by
 unfold KB at h
 split at h<;>simp only[an,reduceCtorEq] at h
 · subst h;cases c with | sc _=>exact⟨_,by simp[Op.unary],.sc rfl⟩
 · subst h;cases c with | sc _=>exact⟨_,by simp[Op.unary,Op.intArith],.sc rfl⟩
def zH (P:Program)(c h:TypeId)(a:AV):Option AV:=
 match P.underlying c,P.underlying h,a with
 | some (.int _),some (.int k),.sc (.int _ n)=>some (.sc (.int k (k.wrap n)))
 | _,_,_=>none
theorem Dl {c i:TypeId}(h:zH P c i a=some r)(j:VR g a x):∃ z,(convert c i x).run P w=.ok z w∧VR g r z:=by
 unfold zH at h
 split at h<;>simp only[an,reduceCtorEq] at h
 rename_i h1 h2
 subst h;cases j with | sc _=>exact⟨_,by simp[convert,ag h1,ag h2,Conv.intToInt],.sc rfl⟩
def zI (P:Program)(t:TypeId)(cs:List AV)(off:Nat):Option AV:=
 match IW P t with
 | some true=>match oK P t with
   | some n=>match Nat.ble (off+n) cs.length with
     | true=>some (.agg ((cs.drop off).take n))
     | false=>none
   | none=>none
 | some false=>nth cs off
 | none=>none
theorem sH {cs:List AV}{off:Nat}(h:zI P t cs off=some r)(j:fe g cs xs) :
   ∃ z,(part t xs off).run P w=.ok z w∧VR g r z:=by
 unfold zI at h
 split at h
 · rename_i l
   split at h<;>try (simp at h;done)
   rename_i n o
   split at h<;>simp only[an,reduceCtorEq] at h
   rename_i c
   have c:=ed c
   subst h
   refine⟨.agg (xs.extract off (off+n)),by simp[part,nF l,run_sizeOf o],.agg ?_ ?_⟩
   · have:=j.1;simp;omega
   · intro k a x e i
     rw[List.getElem?_take] at e
     split at e
     · rw[List.getElem?_drop] at e
       rw[Array.getElem?_extract] at i
       split at i
       · exact j.2 _ a x e i
       · simp at i
     · simp at e
 · rename_i l
   rw[gY] at h
   obtain⟨x,e,p⟩:=j.get h
   exact⟨x,by simp[part,nF l,e],p⟩
 · simp at h
def y9 (P:Program)(xt:TypeId)(a:AV)(f:Nat):Option AV:=
 match P.underlying xt,a with
 | some (.struct fs),.agg cs=>match nth fs.toList f with
   | some d=>zI P d.type cs d.offset
   | none=>none
 | _,_=>none
variable {f : Nat}
theorem Bi {xt:TypeId}(h:y9 P xt a f=some r)(j:VR g a x):∃ z,(Instr.field xt x f).run P w=.ok z w∧VR g r z:=by
 unfold y9 at h
 split at h<;>try (simp at h;done)
 rename_i fs cs l
 split at h<;>try (simp at h;done)
 rename_i d i
 rw[gY] at i
 have c:fs[f]? = some d:=by simpa using i
 cases j with
 | agg n hh=>
   obtain⟨z,e,o⟩:=sH (P:=P) (w:=w) h ⟨n,hh⟩
   exact⟨z,by simp[Instr.field,ag l,c,asAgg,e],o⟩
def rn (P:Program)(s:TypeId)(a:AV)(f:Nat):Option AV:=
 match P.underlying s with
 | some (.struct fs)=>match nth fs.toList f with
   | some d=>match oK P d.type with
     | some (_+1)=>match a with
       | .ptr id i j=>some (.ptr id i (j+d.offset))
       | .fa cs=>match Nat.ble d.offset cs.length with
         | true=>some (.fa (cs.drop d.offset))
         | false=>none
       | _=>none
     | _=>none
   | none=>none
 | _=>none
theorem wF {s:TypeId}(h:rn P s a f=some r)(l:VR g a x):∃ z,(Instr.fieldAt s x f).run P w=.ok z w∧VR g r z:=by
 unfold rn at h
 split at h<;>try (simp at h;done)
 rename_i fs q
 split at h<;>try (simp at h;done)
 rename_i d p
 rw[gY] at p
 have i:fs[f]? = some d:=by simpa using p
 split at h<;>try (simp at h;done)
 rename_i n u
 have key:∀ b o,(Instr.fieldAt s (.pointer (some ⟨b,o,none⟩)) f).run P w=.ok (.pointer (some ⟨b,o+d.offset,none⟩)) w:=by
   intro b o
   simp[Instr.fieldAt,ag q,i,Instr.sureAddr,fieldPlace,run_sizeOf u,Addr.mR]
 split at h
 · simp only[an] at h;subst h
   cases l with
   | ptr A=>exact⟨_,key _ _,by rw[Nat.add_assoc];exact .ptr A⟩
 · split at h<;>simp only[an,reduceCtorEq] at h
   rename_i c
   have c:=ed c
   subst h
   cases l with
   | fa B D hh=>
     refine⟨_,key _ _,.fa B (by simp;omega) ?_⟩
     intro j a y e C
     rw[List.getElem?_drop] at e
     exact hh _ a y e (by rw[←C];congr 1;omega)
 · simp at h
def dh (P:Program)(S:af)(t:TypeId)(a c:AV):Option AV:=
 match c with
 | .sc (.int _ (.ofNat k))=>match P.underlying t with
   | some (.slice el)=>match oK P el with
     | some n=>match a with
       | .ak id off len=>match Nat.ble (k+1) len with
         | true=>match S.get id with
           | some (.arr sz _)=>match Nat.beq sz n with
             | true=>some (.ptr id (off+k) 0)
             | false=>none
           | _=>none
         | false=>none
       | .lit es=>match nth es k with
         | some e=>match Nat.beq e.cells.length n with
           | true=>some (.fa e.cells)
           | false=>none
         | none=>none
       | _=>none
     | none=>none
   | some (.array len el)=>match oK P el with
     | some n=>match Nat.ble (k+1) len with
       | true=>match a with
         | .ptr id i j=>some (.ptr id i (j+k*n))
         | .fa cs=>match Nat.ble (k*n) cs.length with
           | true=>some (.fa (cs.drop (k*n)))
           | false=>none
         | _=>none
       | false=>none
     | none=>none
   | _=>none
 | _=>none
theorem rB {S:af}(hi:Inv S g w){H:AV}(h:dh P S t a H=some r)(A:VR g a x)(hx:VR g H y) :
   ∃ z,(Instr.indexAt t x y).run P w=.ok z w∧VR g r z:=by
 unfold dh at h
 split at h<;>try (simp at h;done)
 rename_i I k
 cases hx with | sc _=>?_
 split at h<;>try (simp at h;done)
 · rename_i el D
   split at h<;>try (simp at h;done)
   rename_i n E
   have key:∀ b o len cap,k<len→(Instr.indexAt t (.slice (some ⟨b,o,none⟩) len cap) (.int I (.ofNat k))).run P w=.ok (.pointer (some ⟨b,o+k*n,none⟩)) w:=by
     intro b o len cap s
     simp only[Instr.indexAt,asIntOf,Sem.run_bind,Sem.run_pure,Result.andThen_ok,ag D]
     rw[if_pos (by constructor<;>simp;omega)]
     simp[run_sizeOf E,Addr.mR]
   split at h
   · rename_i id off len
     split at h<;>try (simp at h;done)
     rename_i s
     have s:=ed s
     split at h<;>try (simp at h;done)
     rename_i sz es M
     split at h<;>simp only[an,reduceCtorEq] at h
     rename_i i
     have i:=jj i
     subst h
     cases A with
     | fI=>omega
     | ak B U J=>
       rename_i cap l
       obtain⟨l', F,V,N⟩:=hi.ob _ _ M
       rw[B] at F;simp only[an] at F;subst F
       obtain⟨c,W,X,Y,O,Z,p5,p6⟩:=N
       refine⟨_,key _ _ _ _ (by omega),?_⟩
       have:l.base+off*l.sz+k*n=l.base+(off+k)*l.sz+0:=by rw[O,i,Nat.add_mul];omega
       exact this ▸ .ptr B
   · rename_i es
     split at h<;>try (simp at h;done)
     rename_i e C
     rw[gY] at C
     have p:k<es.length:=(List.getElem?_eq_some_iff.1 C).1
     split at h<;>simp only[an,reduceCtorEq] at h
     rename_i i
     have i:=jj i
     subst h
     cases A with
     | lit G Q J L hh=>
       rename_i b o sz cap c
       have K:=Q e (sq C)
       refine⟨_,key _ _ _ _ p,.fa G ?_ ?_⟩
       · have:k*sz+sz≤es.length*sz:=by
          have:(k+1)*sz≤es.length*sz:=ue _ p
          rw[Nat.succ_mul] at this;exact this
         rw[i,←i,K];omega
       · intro j a z q R
         exact hh k j e a z C q (by rw[←R,←i,K])
     | gi=>simp at p
   · simp at h
 · rename_i len el D
   split at h<;>try (simp at h;done)
   rename_i n E
   split at h<;>try (simp at h;done)
   rename_i s
   have s:=ed s
   have key:∀ b o,(Instr.indexAt t (.pointer (some ⟨b,o,none⟩)) (.int I (.ofNat k))).run P w=.ok (.pointer (some ⟨b,o+k*n,none⟩)) w:=by
     intro b o
     simp only[Instr.indexAt,asIntOf,Sem.run_bind,Sem.run_pure,Result.andThen_ok,ag D,Instr.sureAddr]
     rw[if_pos (by constructor<;>simp;omega)]
     simp[run_sizeOf E,Addr.mR]
   split at h
   · simp only[an] at h;subst h
     cases A with
     | ptr B=>exact⟨_,key _ _,by rw[Nat.add_assoc];exact .ptr B⟩
   · split at h<;>simp only[an,reduceCtorEq] at h
     rename_i u
     have u:=ed u
     subst h
     cases A with
     | fa G J hh=>
       refine⟨_,key _ _,.fa G (by simp;omega) ?_⟩
       intro j a y e T
       rw[List.getElem?_drop] at e
       exact hh _ a y e (by rw[←T];congr 1;omega)
   · simp at h
end
end Go.Eng
namespace Go.Eng
noncomputable section
def sP : AV→Option Nat
 | .sc (.int _ (.ofNat k))=>some k
 | _=>none
variable {g : Gh} {a : AV} {x : Value}
theorem gp {k:Nat}(h:sP a=some k)(b:VR g a x):∃ c,x=.int c (.ofNat k):=by
 unfold sP at h
 split at h<;>simp only[an,reduceCtorEq] at h
 subst h;cases b with | sc _=>exact⟨_,rfl⟩
def AU (d:Nat):Option AV→Option Nat
 | none=>some d
 | some a=>sP a
def QP (s:ByteArray)(l h:Nat):ByteArray:=⟨((s.data.toList.take h).drop l).toArray⟩
theorem OK (s:ByteArray)(l h:Nat):QP s l h=s.extract l h:=by
 apply ByteArray.ext
 rw[ByteArray.data_extract]
 apply Array.ext'
 simp[QP,List.drop_take]
def Lm (a:AV)(lo hi:Option AV):Option AV:=
 match a with
 | .sc (.string s)=>match AU 0 lo,AU s.size hi with
   | some l,some h=>match Nat.ble l h&&Nat.ble h s.size with
     | true=>some (.sc (.string (QP s l h)))
     | false=>none
   | _,_=>none
 | _=>none
def GD (S:af)(id off l h n:Nat):Option AV:=
 match S.get id with
 | some (.arr sz es)=>match Nat.beq sz n&&Nat.ble l h&&Nat.ble 1 n&&Nat.ble (off+h) es.length with
   | true=>some (.ak id (off+l) (h-l))
   | false=>none
 | _=>none
def ku (P:Program)(S:af)(t:TypeId)(a:AV)(lo hi:Option AV):Option AV:=
 match P.underlying t with
 | some (.slice el)=>match oK P el,a with
   | some n,.ak id off len=>match AU 0 lo,AU len hi with
     | some l,some h=>match Nat.ble l h&&Nat.ble h len with
       | true=>match S.get id with
         | some (.arr sz _)=>match Nat.beq sz n with
           | true=>some (.ak id (off+l) (h-l))
           | false=>none
         | _=>none
       | false=>GD S id off l h n
     | _,_=>none
   | some n,.lit es=>match AU 0 lo,AU es.length hi with
     | some l,some h=>match Nat.ble l h&&Nat.ble h es.length&&es.all (fun e=>Nat.beq e.cells.length n) with
       | true=>some (.lit ((es.take h).drop l))
       | false=>none
     | _,_=>none
   | some _,.ax=>match AU 0 lo,AU 0 hi with
     | some 0,some 0=>some .ax
     | _,_=>none
   | some _,.dV=>match AU 0 lo,AU 0 hi with
     | some 0,some 0=>some .dV
     | _,_=>none
   | _,_=>none
 | some .string=>Lm a lo hi
 | _=>none
variable {P : Program} {w : World}
theorem run_sliceBound {k:IntKind}{n y:Nat}{c:BoundsCode}(h:n≤y):(Instr.sliceBound (.int k (.ofNat n)) y c).run P w=.ok n w:=by
 simp only[Instr.sliceBound,asIntOf,Sem.run_bind,Sem.run_pure,Result.andThen_ok]
 rw[if_pos (by constructor<;>simp;omega)]
 simp
variable {h : Nat} {lo hi : Option AV} {lx hx : Option Value}
theorem sW {b:Bool}{len cap l:Nat}(d:AU 0 lo=some l)(hh:AU len hi=some h)(h1:l≤h)(h2:h≤cap)(f:∀ a x,lo=some a→lx=some x→VR g a x)(i:∀ a x,hi=some a→hx=some x→VR g a x)(el:lo.isSome=lx.isSome)(e:hi.isSome=hx.isSome) :
  (Instr.sliceBounds b len cap lx hx none).run P w=.ok (l,h,cap) w:=by
 have j:(hx=none∧len=h)∨∃ c,hx=some (.int c (.ofNat h)):=by
  cases hi with
  | none=>
    cases hx with
    | none=>simp only[AU,an] at hh;exact .inl ⟨rfl,hh⟩
    | some x=>simp at e
  | some a=>
    cases hx with
    | none=>simp at e
    | some x=>obtain⟨c,rfl⟩:=gp hh (i a x rfl rfl);exact .inr ⟨c,rfl⟩
 have k:(lx=none∧0=l)∨∃ c,lx=some (.int c (.ofNat l)):=by
  cases lo with
  | none=>
    cases lx with
    | none=>simp only[AU,an] at d;exact .inl ⟨rfl,d⟩
    | some x=>simp at el
  | some a=>
    cases lx with
    | none=>simp at el
    | some x=>obtain⟨c,rfl⟩:=gp d (f a x rfl rfl);exact .inr ⟨c,rfl⟩
 rcases j with⟨rfl,rfl⟩ | ⟨c,rfl⟩<;>rcases k with⟨rfl,rfl⟩ | ⟨m,rfl⟩ <;>
  simp only[Instr.sliceBounds,Sem.run_bind,Sem.run_pure,Result.andThen_ok,run_sliceBound h1,run_sliceBound h2]
variable {t : TypeId} {r : AV}
theorem Ff (c:P.underlying t=some .string)(h:Lm a lo hi=some r)(d:VR g a x)(e:∀ a x,lo=some a→lx=some x→VR g a x)(f:∀ a x,hi=some a→hx=some x→VR g a x)(el:lo.isSome=lx.isSome)(i:hi.isSome=hx.isSome) :
   ∃ z,(Instr.sliceAt t x lx hx none).run P w=.ok z w∧VR g r z:=by
 unfold Lm at h
 split at h<;>try (simp at h;done)
 rename_i s
 split at h<;>try (simp at h;done)
 rename_i l hh j k
 split at h<;>simp only[an,reduceCtorEq] at h
 rename_i b
 simp only[Bool.and_eq_true] at b
 subst h
 cases d with
 | sc _=>
   refine⟨.string (s.extract l hh),?_,by rw[OK];exact .sc rfl⟩
   simp only[Instr.sliceAt,Sem.run_bind,ag c,Result.andThen_ok,Instr.slice,Option.isSome_none,Bool.false_eq_true,if_false,Sem.run_pure]
   rw[sW j k (ed b.1) (ed b.2) e f el i]
   simp
theorem Bj {S:af}(Q:Inv S g w)(h:ku P S t a lo hi=some r)(E:VR g a x)(V:∀ a x,lo=some a→lx=some x→VR g a x)(W:∀ a x,hi=some a→hx=some x→VR g a x)(el:lo.isSome=lx.isSome)(X:hi.isSome=hx.isSome) :
   ∃ z,(Instr.sliceAt t x lx hx none).run P w=.ok z w∧VR g r z:=by
 unfold ku at h
 split at h
 case h_2 L=>exact Ff L h E V W el X
 case h_3=>simp at h
 rename_i R L
 have key:∀(b:Option Addr) (len cap l hh n:Nat),oK P R=some n→AU 0 lo=some l→AU len hi=some hh→l≤hh→hh≤cap →
     (Instr.sliceAt t (.slice b len cap) lx hx none).run P w=.ok (.slice (if cap=l then b else b.map (·.add (l*n))) (hh-l) (cap-l)) w:=by
   intro b len cap l hh n q s p e3 e4
   simp only[Instr.sliceAt,Sem.run_bind,ag L,Result.andThen_ok,Instr.slice]
   rw[sW s p e3 e4 V W el X]
   simp[run_sizeOf q]
 split at h<;>try (simp at h;done)
 · rename_i n id off len q
   split at h<;>try (simp at h;done)
   rename_i l hh s p
   have fin:∀(sz:Nat) (es:List AV),S.get id=some (.arr sz es)→sz=n→l≤hh→(hh≤len∨(1≤n∧off+hh≤es.length))→r=.ak id (off+l) (hh-l) →
       ∃ z,(Instr.sliceAt t x lx hx none).run P w=.ok z w∧VR g r z:=by
     intro sz es F d c1 c2 M
     subst M
     obtain⟨Y,C,q2,q3⟩:=Q.ob _ _ F
     obtain⟨c,t', p1,p2,N,p4,p5,p6⟩:=q3
     have v:1≤n∧off+hh≤es.length→Y.base+(off+hh)*n≤Y.bz:=by
       intro k
       have:(off+hh)*n≤es.length*n:=ue _ k.2
       rw[←p2];rw[d] at p4;omega
     cases E with
     | fI D u=>
       rw[D] at C;simp only[an] at C;subst C
       have T:hh=0:=by
         rcases c2 with k | k
         · omega
         · have h1:=v k
           rw[N,d] at u
           rw[Nat.add_mul] at h1
           have h2:hh*1≤hh*n:=Nat.mul_le_mul_left _ k.1
           omega
       have:l=0:=by omega
       subst this;subst T
       refine⟨_,key _ 0 0 0 0 n q s p (Nat.le_refl _) (Nat.le_refl _),?_⟩
       simp only[if_true,Nat.sub_zero]
       exact .fI D u
     | ak D H I=>
       rename_i cap J
       rw[D] at C;simp only[an] at C;subst C
       have U:hh≤cap:=by
         rcases c2 with k | k
         · omega
         · have h1:=v k
           rw[N,d] at I
           have h2:(off+hh)*n≤(off+cap)*n:=by omega
           have:=Nat.le_of_mul_le_mul_right h2 k.1
           omega
       refine⟨_,key _ len cap l hh n q s p c1 U,?_⟩
       by_cases A:cap=l
       · rw[if_pos A]
         have z1:hh-l=0:=by omega
         have z2:cap-l=0:=by omega
         rw[z1,z2];exact .fI D (by rw[←A];exact I)
       · rw[if_neg A]
         simp only[Option.map_some,Addr.mR]
         have:J.base+off*J.sz+l*n=J.base+(off+l)*J.sz:=by rw[N,d,Nat.add_mul];omega
         rw[this]
         exact .ak D (by omega) (by rw[show off+l+(cap-l)=off+cap from by omega];exact I)
   split at h
   · rename_i m
     simp only[Bool.and_eq_true] at m
     split at h<;>try (simp at h;done)
     rename_i sz es F
     split at h<;>simp only[an,reduceCtorEq] at h
     rename_i d
     exact fin sz es F (jj d) (ed m.1) (.inl (ed m.2)) h.symm
   · unfold GD at h
     split at h<;>try (simp at h;done)
     rename_i sz es F
     split at h<;>simp only[an,reduceCtorEq] at h
     rename_i m
     simp only[Bool.and_eq_true] at m
     exact fin sz es F (jj m.1.1.1) (ed m.1.1.2) (.inr ⟨ed m.1.2,ed m.2⟩) h.symm
 · rename_i n es q
   split at h<;>try (simp at h;done)
   rename_i l hh s p
   split at h<;>simp only[an,reduceCtorEq] at h
   rename_i m
   simp only[Bool.and_eq_true] at m
   have c1:=ed m.1.1
   have c2:=ed m.1.2
   have c3:=List.all_eq_true.1 m.2
   subst h
   have f:((es.take hh).drop l).length=hh-l:=by simp;omega
   cases E with
   | gi=>
     simp only[List.length_nil] at p c2
     rename_i b cap
     have u:hh=0:=by omega
     have lz:l=0:=by omega
     subst u;subst lz
     exact⟨_,key _ 0 cap 0 0 n q s p (Nat.le_refl _) (Nat.zero_le _),by simp;exact .gi⟩
   | lit M Z I H B=>
     rename_i b o sz cap c
     refine⟨_,key _ es.length cap l hh n q s p c1 (by omega),?_⟩
     by_cases u:(es.take hh).drop l=[]
     · rw[u]
       have:hh-l=0:=by rw[←f,u];rfl
       rw[this];exact .gi
     · have hpos:l<hh:=by
         rcases Nat.lt_or_ge l hh with k | k
         · exact k
         · exfalso;apply u;apply List.eq_nil_of_length_eq_zero;rw[f];omega
       have d:n=sz:=by
         obtain⟨e,O⟩:=List.exists_mem_of_ne_nil _ u
         have G:e∈es:=List.mem_of_mem_take (List.mem_of_mem_drop O)
         rw[←Z e G,jj (c3 e G)]
       subst d
       rw[if_neg (by omega)]
       simp only[Option.map_some,Addr.mR]
       rw[show hh-l=((es.take hh).drop l).length from f.symm]
       refine .lit M (sz:=n) ?_ ?_ ?_ ?_
       · intro e O;exact Z e (List.mem_of_mem_take (List.mem_of_mem_drop O))
       · rw[f]
         have:l*n+(hh-l)*n≤es.length*n:=by rw[←Nat.add_mul];exact ue _ (by omega)
         omega
       · rw[f];omega
       · intro i j e aa y K f2 f3
         rw[List.getElem?_drop,List.getElem?_take] at K
         split at K
         · refine B (l+i) j e aa y K f2 ?_
           rw[←f3];congr 1;rw[Nat.add_mul];omega
         · simp at K
 · rename_i n q
   split at h<;>simp only[an,reduceCtorEq] at h
   rename_i s p
   subst h
   cases E with | ax=>?_
   exact⟨_,key none 0 0 0 0 n q s p (Nat.le_refl _) (Nat.le_refl _),by simp;exact .ax⟩
 · rename_i n q
   split at h<;>simp only[an,reduceCtorEq] at h
   rename_i s p
   subst h
   cases E with | dV=>?_
   exact⟨_,key _ 0 0 0 0 n q s p (Nat.le_refl _) (Nat.le_refl _),by simp;exact .dV⟩
theorem Addr.Bk (a:Addr):a.add 0=a:=by
 obtain⟨b,o,e⟩:=a
 cases e<;>simp[Addr.add]
def tk : AV→Nat→Option AV
 | .ak id off len,h=>match Nat.ble h len with
   | true=>some (.ak id off h)
   | false=>none
 | .lit es,h=>match Nat.ble h es.length with
   | true=>some (.lit (es.take h))
   | false=>none
 | .ax,0=>some .ax
 | .dV,0=>some .dV
 | _,_=>none
theorem xH (e:tk a h=some r)(l:VR g a x):∃ b n cap,x=.slice b n cap∧n≤cap∧h≤n∧VR g r (.slice b h cap):=by
 cases a with
 | ak id off len=>
   simp only[tk] at e
   cases d:Nat.ble h len with
   | false=>rw[d] at e;simp at e
   | true=>
     rw[d] at e;simp only[an] at e
     have d:=ed d
     subst e
     cases l with
     | fI f q=>
       have:h=0:=by omega
       subst this
       exact⟨_,_,_,rfl,Nat.le_refl _,Nat.le_refl _,.fI f q⟩
     | ak f s p=>exact⟨_,_,_,rfl,s,d,.ak f (by omega) p⟩
 | lit es=>
   simp only[tk] at e
   cases d:Nat.ble h es.length with
   | false=>rw[d] at e;simp at e
   | true=>
     rw[d] at e;simp only[an] at e
     have d:=ed d
     subst e
     cases l with
     | gi=>
       have:h=0:=by simpa using d
       subst this
       exact⟨_,_,_,rfl,Nat.zero_le _,Nat.le_refl _,by simpa using VR.gi⟩
     | lit u v p k hh=>
       rename_i b o sz cap c
       have f:(es.take h).length=h:=by simp;omega
       have key:=VR.lit (g:=g) (es:=es.take h) (cap:=cap) u (sz:=sz) (fun e y=>v e (List.mem_of_mem_take y)) (Nat.le_trans (Nat.add_le_add_left (ue _ (by omega)) _) p) (by omega)
        (fun i j e a x m z A=>by
         rw[List.getElem?_take] at m
         split at m
         · exact hh i j e a x m z A
         · simp at m)
       rw[f] at key
       exact⟨_,_,_,rfl,k,d,key⟩
 | ax=>
   cases h with
   | zero=>
     simp only[tk,an] at e;subst e
     cases l with | ax=>exact⟨_,_,_,rfl,Nat.le_refl _,Nat.le_refl _,.ax⟩
   | succ h=>simp[tk] at e
 | dV=>
   cases h with
   | zero=>
     simp only[tk,an] at e;subst e
     cases l with | dV=>exact⟨_,_,_,rfl,Nat.le_refl _,Nat.le_refl _,.dV⟩
   | succ h=>simp[tk] at e
 | _=>simp[tk] at e
def w6 (P:Program)(t:TypeId)(a hi mx:AV):Option AV:=
 match P.underlying t with
 | some (.slice el)=>match oK P el,sP hi,sP mx with
   | some _,some h,some m=>match Nat.beq h m with
     | true=>match tk a h with
       | some r=>some (.clip r)
       | none=>none
     | false=>none
   | _,_,_=>none
 | _=>none
variable {mx : AV} {mxx : Value}
theorem Dm {hi:AV}{hx:Value}(h:w6 P t a hi mx=some r)(f:VR g a x)(i:VR g hi hx)(j:VR g mx mxx) :
  ∃ z,(Instr.sliceAt t x none (some hx) (some mxx)).run P w=.ok z w∧VR g r z:=by
 unfold w6 at h
 split at h<;>try (simp at h;done)
 rename_i u k
 split at h<;>try (simp at h;done)
 rename_i sz hh m d l o
 split at h<;>try (simp at h;done)
 rename_i p
 have c1:=jj p
 subst c1
 split at h<;>simp only[an,reduceCtorEq] at h
 rename_i r q
 subst h
 obtain⟨b,n,cap,rfl,c,s,e⟩:=xH q f
 obtain⟨k1,rfl⟩:=gp l i
 obtain⟨k2,rfl⟩:=gp o j
 refine⟨.slice b hh hh,?_,.clip e⟩
 simp only[Instr.sliceAt,Sem.run_bind,ag k,Result.andThen_ok,Instr.slice,Instr.sliceBounds,Sem.run_pure,run_sliceBound (Nat.le_trans s c),run_sliceBound (Nat.le_refl hh),run_sizeOf d]
 cases b with
 | none=>simp
 | some b=>simp[Addr.Bk]
def H4 (P:Program)(t:TypeId)(a lo hi mx:AV):Option AV:=
 match P.underlying t with
 | some (.slice el)=>match oK P el,sP lo,sP hi,sP mx with
   | some _,some l,some h,some m=>match Nat.ble l h&&Nat.ble h m,tk a m with
     | true,some _=>some .top
     | _,_=>none
   | _,_,_,_=>none
 | _=>none
theorem Fg {lo hi:AV}{lx hx:Value}(h:H4 P t a lo hi mx=some r)(f:VR g a x)(i:VR g lo lx)(j:VR g hi hx)(k:VR g mx mxx) :
  ∃ z,(Instr.sliceAt t x (some lx) (some hx) (some mxx)).run P w=.ok z w∧VR g r z:=by
 unfold H4 at h
 split at h<;>try (simp at h;done)
 rename_i y o
 split at h<;>try (simp at h;done)
 rename_i sz l hh m e p q s
 split at h<;>simp only[an,reduceCtorEq] at h
 rename_i B d u
 simp only[Bool.and_eq_true] at d
 subst h
 obtain⟨b,n,cap,rfl,c,v,A⟩:=xH u f
 obtain⟨C,rfl⟩:=gp p i
 obtain⟨k1,rfl⟩:=gp q j
 obtain⟨k2,rfl⟩:=gp s k
 refine⟨.slice (if m=l then b else b.map (·.add (l*sz))) (hh-l) (m-l),?_,.top⟩
 simp only[Instr.sliceAt,Sem.run_bind,ag o,Result.andThen_ok,Instr.slice,Instr.sliceBounds,Sem.run_pure,run_sliceBound (Nat.le_trans v c),run_sliceBound (ed d.2),run_sliceBound (ed d.1),run_sizeOf e]
end
end Go.Eng
namespace Go.Eng
noncomputable section
def KC (v:Value):AV:=
 match D5 v with
 | true=>.sc v
 | false=>match v with
   | .slice none 0 0=>.ax
   | .func f ⟨[]⟩ ⟨[]⟩=>.fn f [] []
   | _=>.top
def abU (v:Value):AV:=
 match v with
 | .agg cs=>.agg (cs.toList.map KC)
 | .tuple a=>.bM (a.toList.map KC)
 | v=>KC v
theorem uW (g:Gh)(v:Value):VR g (KC v) v:=by
 unfold KC
 cases h:D5 v with
 | true=>exact .sc h
 | false=>
   dsimp only
   split
   · exact .ax
   · exact .fn rfl rfl (fun k a x e=>by simp at e) (fun k a x e=>by simp at e)
   · exact .top
theorem rW (g:Gh)(v:Value):VR g (abU v) v:=by
 unfold abU
 split
 · rename_i cs
   refine .agg (by simp) fun k a x e b=>?_
   simp only[List.getElem?_map,Array.getElem?_toList,b,Option.map_some,an] at e
   subst e;exact uW g x
 · rename_i cs
   refine .bM (by simp) fun k a x e b=>?_
   simp only[List.getElem?_map,Array.getElem?_toList,b,Option.map_some,an] at e
   subst e;exact uW g x
 · exact uW g v
def gZ (P:Program)(t:TypeId):Option AV:=
 match P.info? t with
 | some i=>match i.zero with
   | some z=>some (abU z)
   | none=>none
 | none=>none
variable {P : Program} {w : World} {g : Gh} {t : TypeId}
theorem iP {a:AV}(h:gZ P t=some a):∃ z,(zeroValue t).run P w=.ok z w∧VR g a z:=by
 unfold gZ at h
 split at h<;>try (simp at h;done)
 rename_i i hi
 split at h<;>simp only[an,reduceCtorEq] at h
 rename_i z b
 subst h
 exact⟨z,by simp[zeroValue,cK hi,b],rW g z⟩
theorem fe.jF {g:Gh}{l ys:List AV}{xs zs:Array Value}(h:fe g l xs)(d:fe g ys zs){n:Nat}(f:n+ys.length≤l.length):fe g (jF l n ys) (Eng.jF xs.toList n zs.toList).toArray:=by
 have h1:=h.1
 have h2:=d.1
 refine⟨by simp[fB,h1],fun k a x e b=>?_⟩
 rw[List.getElem?_toArray,gG _ _ _ (by simp;omega)] at b
 rw[gG _ _ _ f] at e
 rw[show zs.toList.length=ys.length from by simp[h2]] at b
 split at e
 · rename_i c;rw[if_pos c] at b;exact d.2 _ a x e (by simpa using b)
 · rename_i c;rw[if_neg c] at b;exact h.2 _ a x e (by simpa using b)
theorem B3 (off:Nat):∀(l:List Value) (k:Nat) (c:Array Value),off+k+l.length≤c.size →
   (l.zipIdx k).foldl (fun cs (x:Value×Nat)=>cs.setIfInBounds (off+x.2) x.1) c=(jF c.toList (off+k) l).toArray:=by
 intro l
 induction l with
 | nil=>intro k c _;simp[jF]
 | cons v l b=>
   intro k c a
   simp only[List.zipIdx_cons,List.foldl_cons]
   rw[b (k+1) _ (by simp at a ⊢;omega)]
   congr 1
   apply List.ext_getElem?
   intro i
   rw[gG _ _ _ (by simp at a ⊢;omega),gG _ _ _ (by simp at a ⊢;omega)]
   simp only[Array.toList_setIfInBounds,List.getElem?_set,List.length_cons,Array.length_toList]
   simp only[List.length_cons] at a
   by_cases hi:i=off+k
   · subst hi
     rw[if_neg (by omega),if_pos rfl,if_pos (by omega),if_pos (by omega)]
     simp
   · by_cases h2:off+(k+1)≤i∧i<off+(k+1)+l.length
     · rw[if_pos h2,if_pos (by omega),show i-(off+k)=(i-(off+(k+1)))+1 from by omega,List.getElem?_cons_succ]
     · rw[if_neg h2,if_neg (by omega),if_neg (by omega)]
def w7 (place:Nat→Option (Nat×Nat)):List AV→List (Nat×AV)→Option (List AV)
 | cs,[]=>some cs
 | cs,(i,v)::r=>match place i with
   | some (off,size)=>match Nat.beq v.cells.length size&&Nat.ble (off+v.cells.length) cs.length&&v.cells.all cV with
     | true=>w7 place (jF cs off v.cells) r
     | false=>none
   | none=>none
inductive tq (g : Gh) : List (Nat × AV) → List (Nat × Value) → Prop
 | nil : tq g [] []
 | cons {i : Nat} {v : AV} {x : Value} {ps : List (Nat × AV)} {xs : List (Nat × Value)} (hv : VR g v x) (ht : tq g ps xs) : tq g ((i, v) :: ps) ((i, x) :: xs)
variable {ps : List (Nat × AV)} {xs : List (Nat × Value)}
theorem wq {place:Nat→Option (Nat×Nat)}(f:tq g ps xs):∀ {cs r:List AV} {c:Array Value},w7 place cs ps=some r→fe g cs c →
   ∃ c', Instr.fill place c xs=some c' ∧ fe g r c' := by
 induction f with
 | nil=>intro cs r c h d;simp only[w7,an] at h;subst h;exact⟨c,rfl,d⟩
 | cons j p k=>
   rename_i i v y ps xs
   intro cs r c h d
   simp only[w7] at h
   split at h<;>try (simp at h;done)
   rename_i off size e
   split at h<;>try (simp at h;done)
   rename_i a
   simp only[Bool.and_eq_true] at a
   have q:=jj a.1.1
   have l:=ed a.1.2
   have b:=jq j a.2
   have k1:=b.1
   have k2:=d.1
   obtain⟨c', m,o⟩:=k (c:=(Eng.jF c.toList off y.cells.toList).toArray) h (d.jF b l)
   refine⟨c', ?_,o⟩
   simp only[Instr.fill,e]
   rw[if_neg (by simp;omega)]
   rw[←m]
   congr 1
   have:=B3 off y.cells.toList 0 c (by simp;omega)
   rw[Nat.add_zero] at this
   rw[←this,←Array.foldl_toList]
   simp
def acv (P:Program)(t:TypeId):Option (Nat→Option (Nat×Nat)):=
 match P.underlying t with
 | some (.struct fs)=>some fun i=>match nth fs.toList i with
   | some f=>match oK P f.type with
     | some n=>some (f.offset,n)
     | none=>none
   | none=>none
 | some (.array _ el)=>match oK P el with
   | some n=>some fun i=>some (i*n,n)
   | none=>none
 | _=>none
def vE (P:Program):List Field→Bool
 | []=>true
 | f::fs=>match oK P f.type with
   | some _=>vE P fs
   | none=>false
def za (P:Program)(t:TypeId)(ps:List (Nat×AV)):Option AV:=
 match gZ P t with
 | some z=>match P.underlying t with
   | some (.struct fs)=>match vE P fs.toList&&z.cells.all cV with
     | true=>match w7 (fun i=>match nth fs.toList i with
         | some f=>match oK P f.type with
           | some n=>some (f.offset,n)
           | none=>none
         | none=>none) z.cells ps with
       | some cs=>some (.agg cs)
       | none=>none
     | false=>none
   | some (.array _ el)=>match oK P el with
     | some n=>match z.cells.all cV with
       | true=>match w7 (fun i=>some (i*n,n)) z.cells ps with
         | some cs=>some (.agg cs)
         | none=>none
       | false=>none
     | none=>none
   | _=>none
 | none=>none
theorem Fh : ∀ {fs:List Field},vE P fs=true→(fs.mapM fun f=>do pure (f.offset,←sizeOf f.type):Sem (List (Nat×Nat))).run P w=.ok (fs.map fun f=>(f.offset,(oK P f.type).getD 0)) w:=by
 intro fs
 induction fs with
 | nil=>intro _;simp
 | cons f fs b=>
   intro h
   simp only[vE] at h
   split at h<;>try (simp at h;done)
   rename_i n a
   simp only[List.mapM_cons,Sem.run_bind,run_sizeOf a,Result.andThen_ok,Sem.run_pure,b h,List.map_cons,a,Option.getD_some]
variable {r : AV}
theorem Bl {xs:Array (Nat×Value)}(h:za P t ps=some r)(s:tq g ps xs.toList) :
   ∃ z,(Instr.build t xs).run P w=.ok z w∧VR g r z:=by
 unfold za at h
 split at h<;>try (simp at h;done)
 rename_i z u
 obtain⟨y,c,d⟩:=iP (P:=P) (w:=w) (g:=g) u
 split at h<;>try (simp at h;done)
 · rename_i fs p
   split at h<;>try (simp at h;done)
   rename_i e
   simp only[Bool.and_eq_true] at e
   split at h<;>simp only[an,reduceCtorEq] at h
   rename_i cs j
   subst h
   have b:(fun i=>match nth fs.toList i with
       | some f=>match oK P f.type with
         | some n=>some (f.offset,n)
         | none=>none
       | none=>none)=fun i=>((fs.map fun f=>(f.offset,(oK P f.type).getD 0))[i]? : Option (Nat×Nat)):=by
    funext i
    rw[gY]
    simp only[Array.getElem?_toList,Array.getElem?_map]
    cases o:fs[i]? with
    | none=>rfl
    | some f=>
      simp only[Option.map_some]
      have hm:f∈fs.toList:=sq (by simpa using o:fs.toList[i]? = some f)
      have:∃ n,oK P f.type=some n:=by
       have:=e.1
       clear j d c u p o
       generalize fs.toList=l at this hm
       induction l with
       | nil=>simp at hm
       | cons a l v=>
         simp only[vE] at this
         split at this<;>try (simp at this;done)
         rename_i n k
         rcases List.mem_cons.1 hm with rfl | hm
         · exact⟨n,k⟩
         · exact v this hm
      obtain⟨n,k⟩:=this
      simp[k]
   rw[b] at j
   obtain⟨c', q,m⟩:=wq s j (jq d e.2)
   refine⟨.agg c', ?_,.agg m.1 m.2⟩
   simp only[Instr.build,Sem.run_bind,c,Result.andThen_ok,ag p]
   have hm:(fs.mapM fun f=>do pure (f.offset,←sizeOf f.type):Sem (Array (Nat×Nat))).run P w=.ok (fs.map fun f=>(f.offset,(oK P f.type).getD 0)) w:=by
    rw[Array.mapM_eq_mapM_toList]
    simp only[Sem.run_map,Fh e.1,Result.andThen_ok]
    congr 1
    apply Array.ext';simp
   rw[hm]
   simp only[Result.andThen_ok]
   rw[q]
   simp
 · rename_i len el p
   split at h<;>try (simp at h;done)
   rename_i n k
   split at h<;>try (simp at h;done)
   rename_i e
   split at h<;>simp only[an,reduceCtorEq] at h
   rename_i cs j
   subst h
   obtain⟨c', q,m⟩:=wq s j (jq d e)
   refine⟨.agg c', ?_,.agg m.1 m.2⟩
   simp only[Instr.build,Sem.run_bind,c,Result.andThen_ok,ag p,run_sizeOf k]
   rw[q]
   simp
def BM (S:af)(v:AV):Option (AV×af):=
 match v.cells.all cV&&Nat.ble (S.nx+1) 8192&&Nat.ble S.lim S.nx with
 | true=>some (.ptr S.nx 0 0,S.add (.arr v.cells.length [v]))
 | false=>none
variable {S S' : af} {x : Value}
theorem xI (hi:Inv S g w){v:AV}(h:BM S v=some (r,S'))(f:VR g v x) :
   ∃ a w' g', (newVar t x).run P w=.ok a w' ∧ VR g' r (.pointer (some a))∧Inv S' g' w' ∧ Ext S g w S' g' w' := by
 unfold BM at h
 split at h<;>simp only[an,gU,reduceCtorEq] at h
 rename_i c
 obtain⟨rfl,rfl⟩:=h
 simp only[Bool.and_eq_true] at c
 have c2:=ed c.1.2
 have c3:=ed c.2
 have b:=jq f c.1.1
 obtain ⟨k,m⟩:=hi.alloc (w' := w.alloc (.cells x.cells t)) (by omega) (o:=.arr v.cells.length [v]) (ob:=.cells x.cells t) (l:=⟨w.heap.size,0,v.cells.length,x.cells.size⟩) rfl
   ⟨x.cells,t,rfl,rfl,rfl,by simp[b.1],by simp,by
    intro i j e a y d p q
    cases i with
    | zero=>
      simp only[List.getElem?_cons_zero,an] at d
      subst d
      exact b.2 j a y p (by simpa using q)
    | succ i=>simp at d⟩ rfl rfl ⟨rfl,Nat.le_refl _⟩ rfl c3
 refine⟨⟨w.heap.size,0,none⟩,_,_,?_,?_,k,m⟩
 · simp[newVar,newRow]
 · have:=VR.ptr (g:=g.add S.nx ⟨w.heap.size,0,v.cells.length,x.cells.size⟩) (id:=S.nx) (i:=0) (j:=0) (Gh.add_same _ _ _)
   simpa using this
def KE : List AV→List (Nat×AV)→Option (List AV)
 | es,[]=>some es
 | es,(i,v)::r=>match nth es i with
   | some e=>match Nat.beq v.cells.length e.cells.length&&v.cells.all cV with
     | true=>KE (es.set i v) r
     | false=>none
   | none=>none
def nW (g:Gh)(sz:Nat)(es:List AV)(c:Array Value):Prop:=
 es.length*sz≤c.size∧(∀ e,e∈es→e.cells.length=sz)∧∀(i j:Nat) (e a:AV) (y:Value),es[i]? = some e→e.cells[j]? = some a→c[i*sz+j]? = some y→VR g a y
theorem GZ {sz:Nat}(I:tq g ps xs):∀ {es r:List AV} {c:Array Value},KE es ps=some r→nW g sz es c →
   ∃ c', Instr.fill (fun i=>some (i*sz,sz)) c xs=some c' ∧ nW g sz r c' ∧ c'.size=c.size∧r.length=es.length:=by
 induction I with
 | nil=>intro es r c h B;simp only[KE,an] at h;subst h;exact⟨c,rfl,B,rfl,rfl⟩
 | cons J T K=>
   rename_i i v y ps xs
   intro es r c h B
   simp only[KE] at h
   split at h<;>try (simp at h;done)
   rename_i e C
   rw[gY] at C
   split at h<;>try (simp at h;done)
   rename_i D
   simp only[Bool.and_eq_true] at D
   have L:=jj D.1
   obtain⟨k1,k2,k3⟩:=B
   have d:=jq J D.2
   have f:v.cells.length=sz:=by rw[L];exact k2 e (sq C)
   have q:i<es.length:=(List.getElem?_eq_some_iff.1 C).1
   have G:i*sz+sz≤es.length*sz:=by
     have:(i+1)*sz≤es.length*sz:=ue _ q
     rw[Nat.succ_mul] at this;exact this
   have k:y.cells.toList.length=sz:=by rw[←f,d.1];simp
   have s:nW g sz (es.set i v) (Eng.jF c.toList (i*sz) y.cells.toList).toArray:=by
     refine⟨by simp[fB];exact k1,?_,?_⟩
     · intro M E
       rcases List.mem_or_eq_of_mem_set E with hm | hm
       · exact k2 M hm
       · subst hm;exact f
     · intro o j u a z b A p
       rw[List.getElem?_toArray,gG _ _ _ (by rw[k];simp;omega),k] at p
       rw[List.getElem?_set] at b
       by_cases l:i=o
       · subst l
         rw[if_pos rfl,if_pos q] at b
         simp only[an] at b
         subst b
         have N:j<sz:=by rw[←f];exact(List.getElem?_eq_some_iff.1 A).1
         rw[if_pos (by omega),show i*sz+j-i*sz=j from by omega] at p
         exact d.2 j a z A (by simpa using p)
       · rw[if_neg l] at b
         have N:j<sz:=by rw[←k2 u (sq b)];exact(List.getElem?_eq_some_iff.1 A).1
         have F:¬ (i*sz≤o*sz+j∧o*sz+j<i*sz+sz):=by
          rintro⟨c1,c2⟩
          rcases Nat.lt_or_gt_of_ne l with m | m
          · have:(i+1)*sz≤o*sz:=ue _ m
            rw[Nat.succ_mul] at this;omega
          · have:(o+1)*sz≤i*sz:=ue _ m
            rw[Nat.succ_mul] at this;omega
         rw[if_neg F] at p
         exact k3 o j u a z b A (by simpa using p)
   obtain⟨c', O,u,Q,R⟩:=K (c:=(Eng.jF c.toList (i*sz) y.cells.toList).toArray) h s
   refine⟨c', ?_,u,?_,?_⟩
   · simp only[Instr.fill]
     have H:=d.1
     rw[if_neg (by simp;omega)]
     rw[←O]
     congr 1
     have:=B3 (i*sz) y.cells.toList 0 c (by simp;simp at k;omega)
     rw[Nat.add_zero] at this
     rw[←this,←Array.foldl_toList]
     simp
   · rw[Q];simp[fB]
   · rw[R];simp
theorem nW.alloc {S:af}{g:Gh}{w:World}(hi:Inv S g w){sz:Nat}{es:List AV}{c:Array Value}(h:nW g sz es c)(t:TypeId)(b:Ok S.nx)(d:S.lim≤S.nx) :
  Inv (S.add (.arr sz es)) (g.add S.nx ⟨w.heap.size,0,sz,c.size⟩) (w.alloc (.cells c t))∧Ext S g w (S.add (.arr sz es)) (g.add S.nx ⟨w.heap.size,0,sz,c.size⟩) (w.alloc (.cells c t)):=
 hi.alloc (w' := w.alloc (.cells c t)) b (o:=.arr sz es) (ob:=.cells c t) (l:=⟨w.heap.size,0,sz,c.size⟩) rfl
  ⟨c,t,rfl,rfl,rfl,by simpa using h.1,h.2.1,fun i j e a y f k m=>h.2.2 i j e a y f k (by simpa using m)⟩ rfl rfl ⟨rfl,Nat.le_refl _⟩ rfl d
variable {n : Nat}
theorem vQ {z:AV}{b:Array Value}{m:Nat}(f:fe g z.cells b)(o:n≤m):nW g b.size (List.replicate n z) ((Array.range (m*b.size)).map fun i=>b[i%b.size]!):=by
 refine⟨by simp;exact ue _ o,?_,?_⟩
 · intro e p;rw[(List.mem_replicate.1 p).2,f.1]
 · intro i j e a y d l c
   rw[List.getElem?_replicate] at d
   split at d<;>simp only[an,reduceCtorEq] at d
   rename_i hi
   subst d
   have h:j<b.size:=by rw[←f.1];exact(List.getElem?_eq_some_iff.1 l).1
   simp only[Array.getElem?_map] at c
   have k:i*b.size+j<m*b.size:=by
    have:(i+1)*b.size≤m*b.size:=ue _ (by omega)
    rw[Nat.succ_mul] at this;omega
   rw[Array.getElem?_range,if_pos k] at c
   simp only[Option.map_some,an] at c
   have q:(i*b.size+j)%b.size=j:=by
    rw[Nat.mul_comm,Nat.mul_add_mod];exact Nat.mod_eq_of_lt h
   rw[q] at c
   refine f.2 j a y l ?_
   rw[←c,AT h]
   simp[getElem!_pos,h]
def eC (S:af)(sz:Nat)(es:List AV):Option (AV×af):=
 match Nat.ble (S.nx+1) 8192&&Nat.ble S.lim S.nx with
 | true=>some (.ak S.nx 0 es.length,S.add (.arr sz es))
 | false=>none
def mV (P:Program)(S:af)(t:TypeId)(len:Nat)(ps:List (Nat×AV)):Option (AV×af):=
 match P.underlying t with
 | some (.slice el)=>match oK P el with
   | some (n+1)=>match Nat.ble (len*(n+1)) (2 ^ 24) with
     | true=>match gZ P el with
       | some z=>match Nat.beq z.cells.length (n+1)&&z.cells.all cV with
         | true=>match KE (List.replicate len z) ps with
           | some es=>eC S (n+1) es
           | none=>none
         | false=>none
       | none=>none
     | false=>none
   | _=>none
 | _=>none
theorem va (hi:Inv S g w){len:Nat}{xs:Array (Nat×Value)}(h:mV P S t len ps=some (r,S'))(v:tq g ps xs.toList) :
   ∃ z w' g', (Instr.buildSlice t len xs).run P w=.ok z w' ∧ VR g' r z∧Inv S' g' w' ∧ Ext S g w S' g' w' := by
 unfold mV at h
 split at h<;>try (simp at h;done)
 rename_i el y
 split at h<;>try (simp at h;done)
 rename_i n q
 simp only[Nat.succ_eq_add_one] at q h
 split at h<;>try (simp at h;done)
 rename_i b
 have b:=ed b
 split at h<;>try (simp at h;done)
 rename_i z A
 split at h<;>try (simp at h;done)
 rename_i f
 simp only[Bool.and_eq_true] at f
 have k:=jj f.1
 split at h<;>try (simp at h;done)
 rename_i es B
 unfold eC at h
 split at h<;>simp only[an,gU,reduceCtorEq] at h
 rename_i j
 obtain⟨rfl,rfl⟩:=h
 simp only[Bool.and_eq_true] at j
 have c2:=ed j.1
 have c3:=ed j.2
 obtain⟨s,l,o⟩:=iP (P:=P) (w:=w) (g:=g) A
 have c:=jq o f.2
 have d:s.cells.size=n+1:=by rw[←c.1,k]
 have h0:=vQ (n:=len) (m:=len) c (Nat.le_refl _)
 rw[d] at h0
 obtain⟨c', u,C,D,E⟩:=GZ v B h0
 obtain⟨F,G⟩:=C.alloc hi el (by omega) c3
 have p:c'.size=len*(n+1):=by rw[D];simp
 have e:es.length=len:=by rw[E];simp
 refine⟨.slice (some ⟨w.heap.size,0,none⟩) len len,_,_,?_,?_,F,G⟩
 · simp only[Instr.buildSlice,Sem.run_bind,ag y,Result.andThen_ok,run_sizeOf q]
   rw[if_neg (by omega)]
   by_cases a:len*(n+1)=0
   · rw[if_pos a]
     simp only[Sem.run_bind,Sem.run_pure,Result.andThen_ok]
     have:((Array.range (len*(n+1))).map fun i=>(#[]:Array Value)[i%(#[]:Array Value).size]!)=(Array.range (len*(n+1))).map fun i=>s.cells[i%(n+1)]! := by
      rw[a];apply Array.ext';simp
     rw[this,u]
     simp[newRow]
   · rw[if_neg a]
     simp only[Sem.run_bind,l,Result.andThen_ok,Sem.run_pure,d]
     rw[u]
     simp[newRow]
 · have:=VR.ak (g:=g.add S.nx ⟨w.heap.size,0,n+1,c'.size⟩) (id:=S.nx) (off:=0) (len:=es.length) (cap:=len) (Gh.add_same _ _ _) (by omega) (by simp;omega)
   rw[e] at this ⊢
   simpa using this
def mC (P:Program)(S:af)(t:TypeId)(len cap:AV):Option (AV×af):=
 match sP len,sP cap,P.underlying t with
 | some l,some c,some (.slice el)=>match P.info? el,gZ P el with
   | some i,some z=>match Nat.ble l c&&Nat.ble (c*(i.bytes+1)) (2 ^ 40)&&Nat.beq z.cells.length i.size&&Nat.ble 1 i.size&&z.cells.all cV with
     | true=>eC S i.size (List.replicate l z)
     | false=>none
   | _,_=>none
 | _,_,_=>none
theorem wrap64_in {n:Int}(h : -9223372036854775808≤n∧n≤9223372036854775807):IntKind.i64.wrap n=n:=by rw[IntKind.wrap_i64];omega
theorem uX (h:n<2 ^ 62):IntKind.i64.wrap (n:Int)=n:=wrap64_in (by omega)
theorem wG (hi:Inv S g w){len cap:AV}{y:Value}(h:mC P S t len cap=some (r,S'))(hx:VR g len x)(E:VR g cap y) :
   ∃ z w' g', (Instr.makeSlice t x y).run P w=.ok z w' ∧ VR g' r z∧Inv S' g' w' ∧ Ext S g w S' g' w' := by
 unfold mC at h
 split at h<;>try (simp at h;done)
 rename_i l c el F f G
 obtain⟨k1,rfl⟩:=gp F hx
 obtain⟨k2,rfl⟩:=gp f E
 split at h<;>try (simp at h;done)
 rename_i i z a H
 split at h<;>try (simp at h;done)
 rename_i B
 simp only[Bool.and_eq_true] at B
 obtain⟨⟨⟨⟨j,o⟩,p⟩,C⟩,I⟩:=B
 have j:=ed j
 have o:=ed o
 have p:=jj p
 have C:=ed C
 unfold eC at h
 split at h<;>simp only[an,gU,reduceCtorEq] at h
 rename_i q
 obtain⟨rfl,rfl⟩:=h
 simp only[Bool.and_eq_true] at q
 have c2:=ed q.1
 have c3:=ed q.2
 obtain⟨D,s,u⟩:=iP (P:=P) (w:=w) (g:=g) H
 have d:=jq u I
 have e:D.cells.size=i.size:=by rw[←d.1,p]
 have h0:=vQ (n:=l) (m:=c) d j
 rw[e] at h0
 obtain⟨J,K⟩:=h0.alloc hi el (by omega) c3
 have M:c*i.bytes≤2 ^ 40:=Nat.le_trans (Nat.mul_le_mul_left c (Nat.le_succ _)) o
 have N:c≤2 ^ 40:=Nat.le_trans (Nat.le_mul_of_pos_right c (Nat.succ_pos _)) o
 have w1:IntKind.i64.wrap (Int.ofNat l)=l:=uX (by omega)
 have L:IntKind.i64.wrap (Int.ofNat c)=c:=uX (by omega)
 have v:oK P el=some i.size:=by simp[oK,a]
 refine⟨.slice (some ⟨w.heap.size,0,none⟩) l c,_,_,?_,?_,J,K⟩
 · simp only[Instr.makeSlice,Sem.run_bind,ag G,Result.andThen_ok,asInt,asIntOf,Sem.run_pure,cK a,w1,L]
   have A:¬ ((decide ((c:Int)<0)||decide ((i.bytes:Int)*(c:Int)>2 ^ 48))||decide ((l:Int)<0)||decide ((l:Int)>(c:Int)))=true:=by
     simp only[Bool.or_eq_true,decide_eq_true_eq,not_or]
     refine⟨⟨⟨by omega,?_⟩,by omega⟩,by omega⟩
     have:((i.bytes:Int)*(c:Int))=((c*i.bytes:Nat):Int):=by rw[Int.natCast_mul,Int.mul_comm]
     rw[this];omega
   rw[if_neg A]
   simp only[Sem.run_bind,run_askRoom,Result.andThen_ok,run_sizeOf v,Int.toNat_natCast]
   by_cases b:c*i.size=0
   · rw[if_pos b]
     simp only[Sem.run_bind,Sem.run_pure,Result.andThen_ok]
     have:((Array.range (c*i.size)).map fun k=>(#[]:Array Value)[k%(#[]:Array Value).size]!)=(Array.range (c*i.size)).map fun k=>D.cells[k%i.size]! := by
      rw[b];apply Array.ext';simp
     rw[this]
     simp[newRow]
   · rw[if_neg b]
     simp only[Sem.run_bind,s,Result.andThen_ok,Sem.run_pure,e]
     simp[newRow]
 · have:=VR.ak (g:=g.add S.nx ⟨w.heap.size,0,i.size,c*i.size⟩) (id:=S.nx) (off:=0) (len:=l) (cap:=c) (Gh.add_same _ _ _) j (by simp)
   simpa using this
end
end Go.Eng
namespace Go.Eng
noncomputable section
def pd (S:af):AV→Option (List AV)
 | .lit es=>some es
 | .ak id off len=>match S.get id with
   | some (.arr _ es)=>match Nat.ble (off+len) es.length with
     | true=>some ((es.drop off).take len)
     | false=>none
   | _=>none
 | .ax=>some []
 | .dV=>some []
 | _=>none
def gl (S:af):AV→Option (List AV)
 | .clip v=>pd S v
 | v=>pd S v
def sized (n:Nat)(es:List AV):Bool:=es.all fun e=>Nat.beq e.cells.length n&&e.cells.all cV
variable {n : Nat} {es : List AV}
theorem jr (h:sized n es=true){e:AV}(a:e∈es):e.cells.length=n∧e.cells.all cV=true:=by
 have:=List.all_eq_true.1 h e a
 simp only[Bool.and_eq_true] at this
 exact⟨jj this.1,this.2⟩
variable {P : Program} {S : af} {g : Gh} {w : World} {x : AV} {y : Value}
theorem Ad (hi:Inv S g w)(h:pd S x=some es)(E:VR g x y)(K:sized n es=true) :
   ∃ a cap cs,y=.slice a es.length cap∧es.length≤cap∧(∀ w', w'.heap=w.heap→(Builtin.firstCells n es.length y).run P w' = .ok cs w')∧nW g n es cs∧cs.size=es.length*n:=by
 have f:∀(a:Option Addr) (cap:Nat) (w' : World),w'.heap=w.heap→(Builtin.firstCells n 0 (.slice a 0 cap)).run P w' = .ok #[] w' := by
   intro a cap w' _
   cases a with
   | none=>simp[Builtin.firstCells]
   | some a=>simp[Builtin.firstCells,loadCells,loadCellsFrom]
 have C:nW g n [] #[]:=⟨by simp,by simp,by simp⟩
 unfold pd at h
 split at h<;>try (simp at h;done)
 · simp only[an] at h;subst h
   cases E with
   | gi=>exact⟨_,_,#[],rfl,Nat.zero_le _,f _ _,C,by simp⟩
   | lit O D L m hh=>
     rename_i es b o sz cap c
     by_cases F:es=[]
     · subst F;exact⟨_,cap,#[],rfl,Nat.zero_le _,f _ _,C,by simp⟩
     · have v:n=sz:=by
         obtain⟨e,q⟩:=List.exists_mem_of_ne_nil _ F
         rw[←D e q,(jr K q).1]
       subst v
       obtain⟨t,fz,Q⟩:=hi.ro _ _ O
       refine⟨_,cap,c.extract o (o+es.length*n),rfl,m,?_,⟨by simp;omega,D,?_⟩,by simp;omega⟩
       · intro w' A
         simp only[Builtin.firstCells]
         rw[run_loadCells (by rw[A];exact Q) L]
       · intro i j e a z u G p
         rw[Array.getElem?_extract] at p
         split at p
         · exact hh i j e a z u G (by rw[←p];congr 1;omega)
         · simp at p
 · rename_i id off len
   split at h<;>try (simp at h;done)
   rename_i sz es' R
   split at h<;>simp only[an,reduceCtorEq] at h
   rename_i B
   have B:=ed B
   subst h
   have k:((es'.drop off).take len).length=len:=by simp;omega
   cases E with
   | fI=>simp only[List.take_zero] at *;exact⟨_,_,#[],rfl,Nat.le_refl _,f _ _,C,by simp⟩
   | ak T m L=>
     rename_i cap l
     obtain⟨l', H,X,U⟩:=hi.ob _ _ R
     rw[T] at H;simp only[an] at H;subst H
     obtain⟨c,Y,V,Z,M,p4,N,W⟩:=U
     rw[k]
     by_cases F:len=0
     · subst F;simp only[List.take_zero] at *;exact⟨_,cap,#[],rfl,Nat.zero_le _,f _ _,C,by simp⟩
     · have v:n=sz:=by
         have I:(es'.drop off).take len≠[]:=by intro e;rw[e] at k;simp at k;omega
         obtain⟨e,q⟩:=List.exists_mem_of_ne_nil _ I
         rw[←N e (List.mem_of_mem_drop (List.mem_of_mem_take q)),(jr K q).1]
       subst v
       have J:l.base+off*l.sz+len*n≤c.size:=by
         rw[M]
         have:(off+len)*n≤es'.length*n:=ue _ B
         rw[Nat.add_mul] at this;omega
       refine⟨_,cap,c.extract (l.base+off*l.sz) (l.base+off*l.sz+len*n),rfl,m,?_,⟨by rw[k];simp;omega,?_,?_⟩,by simp;omega⟩
       · intro w' A
         simp only[Builtin.firstCells]
         rw[run_loadCells (by rw[A];exact V) J]
       · intro e q;exact N e (List.mem_of_mem_drop (List.mem_of_mem_take q))
       · intro i j e a z u G p
         rw[List.getElem?_take] at u
         split at u
         · rw[List.getElem?_drop] at u
           rw[Array.getElem?_extract] at p
           split at p
           · refine W (off+i) j e a z u G ?_
             rw[←p];congr 1;rw[M,Nat.add_mul];omega
           · simp at p
         · simp at u
 · simp only[an] at h;subst h
   cases E with | ax=>exact⟨_,_,#[],rfl,Nat.le_refl _,f _ _,C,by simp⟩
 · simp only[an] at h;subst h
   cases E with | dV=>exact⟨_,_,#[],rfl,Nat.le_refl _,f _ _,C,by simp⟩
theorem pZ (hi:Inv S g w)(h:gl S x=some es)(b:VR g x y)(e:sized n es=true) :
   ∃ a cap cs,y=.slice a es.length cap∧es.length≤cap∧(∀ w', w'.heap=w.heap→(Builtin.firstCells n es.length y).run P w' = .ok cs w')∧nW g n es cs∧cs.size=es.length*n:=by
 unfold gl at h
 split at h
 · cases b with | clip b=>?_
   obtain⟨a,cap,cs,f,e2,j,k,l⟩:=Ad (P:=P) hi h b e
   simp only[Value.slice.injEq] at f
   obtain⟨rfl,rfl,rfl⟩:=f
   refine⟨_,_,cs,rfl,Nat.le_refl _,fun w' m=>?_,k,l⟩
   have:=j w' m
   rename_i a0 c0
   cases a0<;>exact this
 · exact Ad hi h b e
variable {c d : Array Value}
theorem nW.append {fs:List AV}(h:nW g n es c)(m:nW g n fs d)(o:c.size=es.length*n):nW g n (es++fs) (c++d):=by
 obtain⟨A,a2,a3⟩:=h
 obtain⟨B,p,q⟩:=m
 refine⟨?_,?_,?_⟩
 · simp only[List.length_append,Array.size_append,Nat.add_mul];omega
 · intro e u;rcases List.mem_append.1 u with k | k
   · exact a2 e k
   · exact p e k
 · intro i j e a y b l f
   by_cases hi:i<es.length
   · rw[List.getElem?_append_left hi] at b
     have C:j<n:=by rw[←a2 e (sq b)];exact(List.getElem?_eq_some_iff.1 l).1
     have:i*n+n≤es.length*n:=by
      have:(i+1)*n≤es.length*n:=ue _ hi
      rw[Nat.succ_mul] at this;exact this
     rw[Array.getElem?_append_left (by omega)] at f
     exact a3 i j e a y b l f
   · rw[List.getElem?_append_right (by omega)] at b
     have v:es.length*n≤i*n:=ue _ (by omega)
     rw[Array.getElem?_append_right (by omega)] at f
     refine q _ j e a y b l ?_
     rw[←f];congr 1;rw[Nat.sub_mul,o];omega
theorem nW.more (h:nW g n es c)(d:Array Value)(a:c.size=es.length*n):nW g n es (c++d):=by
 have:=h.append (fs:=[]) (d:=d) ⟨by simp,by simp,by simp⟩ a
 simpa using this
theorem nW.mono {g g' : Gh}(b:Gh.le g g'){n:Nat}{es:List AV}{c:Array Value}(h:nW g n es c):nW g' n es c:=⟨h.1,h.2.1,fun i j e a y f k l=>(h.2.2 i j e a y f k l).mono b⟩
theorem Jj (a B:Nat)(e:a+(a+768)/4≤B):∀(r c:Nat),c≤B→Builtin.growBy a r c≤B:=by
 intro r
 induction r with
 | zero=>intro c h;exact h
 | succ r b=>
   intro c h
   simp only[Builtin.growBy]
   split
   · exact h
   · exact b _ (by omega)
theorem nextslicecap_le (a qN:Nat)(h:qN<a):Builtin.nextslicecap a qN≤2*a+768:=by
 unfold Builtin.nextslicecap
 split
 · omega
 · split
   · omega
   · exact Jj a _ (by omega) 4 qN (by omega)
variable {w' : World}
theorem Inv.world (h:Inv S g w)(hh:w'.heap=w.heap):Inv S g w' :=
 ⟨fun b c e=>by rw[hh];exact h.ro b c e,fun id o e=>by obtain⟨l,a,b,c⟩:=h.ob id o e;exact⟨l,a,b,by rw[hh];exact c⟩,h.inj,h.fresh⟩
theorem Ext.world (hh:w'.heap=w.heap)(f:w'.os=w.os)(j:D0 w' w)(k:w'.output=w.output):Ext S g w S g w' :=
 ⟨by rw[hh];exact Nat.le_refl _,f,j,k,fun b _ _=>by rw[hh],fun id o l h h1 h2 _=>⟨id,o,l,h,h1,h2,rfl⟩,Gh.le_refl _,Nat.le_refl _,rfl,fun _ _=>rfl,fun _ _=>rfl,fun _ _ e _=>.inl e,fun _ _ e=>e,fun a _=>by unfold World.frozen?;rw[hh]⟩
variable {sz : Nat}
theorem Ae (hi:Inv S g w){id off:Nat}{xs:List AV}{l:Loc}{cc:Array Value}(J:S.get id=some (.arr sz es))(O:S.lim≤id)(K:g.ph id=some l)(E:sized sz xs=true)(L:nW g sz xs cc)(u:cc.size=xs.length*sz)(Q:off+xs.length≤es.length) :
   ∃ w', (storeCells ⟨l.bO,l.base+off*sz,none⟩ cc.toList).run P w=.ok () w' ∧ Inv (S.set id (.arr sz (jF es off xs))) g w' ∧ Ext S g w (S.set id (.arr sz (jF es off xs))) g w' := by
 obtain⟨l', F,q2,R⟩:=hi.ob _ _ J
 rw[K] at F;simp only[an] at F;subst F
 obtain⟨c,M,T,U,V,W,N,X⟩:=R
 have v:cc.toList.length=xs.length*sz:=by rw[show cc.toList.length=cc.size from Array.length_toList];exact u
 have m:l.base+off*sz+cc.toList.length≤c.size:=by
   rw[v]
   have:(off+xs.length)*sz≤es.length*sz:=ue _ Q
   rw[Nat.add_mul] at this;omega
 have C:∀ y,y∈cc.toList→y.oneCell' = true:=by
   intro y Y
   obtain⟨k,p⟩:=List.getElem?_of_mem Y
   have A:cc[k]? = some y:=by simpa using p
   have h:k<xs.length*sz:=by rw[←u];exact(Array.getElem?_eq_some_iff.1 A).1
   have G:0<sz:=by
     rcases Nat.eq_zero_or_pos sz with e | e
     · rw[e] at h;simp at h
     · exact e
   have h1:k/sz<xs.length:=Nat.div_lt_of_lt_mul (by rw[Nat.mul_comm];exact h)
   have h2:k%sz<sz:=Nat.mod_lt _ G
   obtain⟨Z,s2⟩:=jr E (List.getElem_mem h1)
   have h3:k%sz<xs[k/sz].cells.length:=by rw[Z];exact h2
   refine mU (List.all_eq_true.1 s2 _ (List.getElem_mem h3)) (L.2.2 _ _ _ _ y (nA h1) (nA h3) ?_)
   rw[←A];congr 1;rw[Nat.mul_comm];exact Nat.div_add_mod k sz
 obtain⟨w', r1,r2,r3,r4,r5,r6,r7⟩:=mZ (P:=P) (b:=l.bO) (o:=l.base+off*sz) (t:=M) cc.toList w c 0 T (by omega) C
 refine⟨w', by simpa using r1,?_⟩
 refine hi.jB J O K r4 r2 r3 r5 r6 r7 ⟨_,M,rfl,by simp[fB,U],V,by simp[fB];exact W,?_,?_⟩
 · intro e he
   obtain⟨k,p⟩:=List.getElem?_of_mem he
   rw[gG _ _ _ (by omega)] at p
   split at p
   · exact(jr E (sq p)).1
   · exact N e (sq p)
 · intro i j e a y f D q
   rw[gG _ _ _ (by omega)] at f
   rw[List.getElem?_toArray,gG _ _ _ (by simp at m ⊢;omega),v] at q
   simp only[Nat.add_zero] at q
   by_cases B:off≤i∧i<off+xs.length
   · rw[if_pos B] at f
     have hj:j<sz:=by rw[←(jr E (sq f)).1];exact(List.getElem?_eq_some_iff.1 D).1
     have hm:(i-off)*sz+sz≤xs.length*sz:=by
      have:(i-off+1)*sz≤xs.length*sz:=ue _ (by omega)
      rw[Nat.succ_mul] at this;exact this
     have hio:i*sz=off*sz+(i-off)*sz:=by rw[←Nat.add_mul];congr 1;omega
     rw[if_pos (by omega)] at q
     refine L.2.2 _ j e a y f D ?_
     rw[←Array.getElem?_toList,←q];congr 1;omega
   · rw[if_neg B] at f
     have hj:j<sz:=by rw[←N e (sq f)];exact(List.getElem?_eq_some_iff.1 D).1
     have H:¬ (l.base+off*sz≤l.base+i*sz+j∧l.base+i*sz+j<l.base+off*sz+xs.length*sz):=by
      rintro⟨c1,c2⟩
      rcases Nat.lt_or_ge i off with I | hge
      · have:(i+1)*sz≤off*sz:=ue _ I
        rw[Nat.succ_mul] at this;omega
      · have:(off+xs.length)*sz≤i*sz:=ue _ (by omega)
        rw[Nat.add_mul] at this;omega
     rw[if_neg H] at q
     exact X i j e a y f D (by simpa using q)
def w8 (S:af)(id off len sz:Nat)(xs:List AV):Option af:=
 match S.get id with
 | some (.arr a es)=>match Nat.beq a sz&&Nat.ble S.lim id&&Nat.ble (off+len+xs.length) es.length with
   | true=>some (S.set id (.arr a (jF es (off+len) xs)))
   | false=>none
 | _=>none
def jZ (P:Program)(S:af)(ts:List TypeId)(s x:AV):Option (AV×af):=
 match ts with
 | st::xt::_=>match P.underlying st,P.underlying xt with
   | some (.slice el),some (.slice _)=>match P.info? el,gZ P el,gl S x with
     | some i,some z,some xs=>match sized i.size xs&&Nat.ble 1 i.size&&Nat.ble i.bytes 4096&&Nat.beq z.cells.length i.size&&z.cells.all cV with
       | true=>match xs with
         | []=>match gl S s with
           | some es=>match sized i.size es with
             | true=>some (s,S)
             | false=>none
           | none=>none
         | _::_=>match s with
           | .ax=>match Nat.ble xs.length 1048576 with
             | true=>eC S i.size xs
             | false=>none
           | .dV=>match Nat.ble xs.length 1048576 with
             | true=>eC S i.size xs
             | false=>none
           | .ak id off len=>match w8 S id off len i.size xs with
             | some S' => some (.ak id off (len+xs.length),S')
             | none=>match S.get id,gl S s with
               | some (.arr sz _),some es=>match Nat.ble (es.length+xs.length) 1048576&&sized i.size es&&Nat.ble S.lim id&&Nat.beq sz i.size with
                 | true=>eC (S.del id) i.size (es++xs)
                 | false=>none
               | _,_=>none
           | .clip _=>match gl S s with
             | some es=>match Nat.ble (es.length+xs.length) 1048576&&sized i.size es with
               | true=>eC S i.size (es++xs)
               | false=>none
             | none=>none
           | _=>none
       | false=>none
     | _,_,_=>none
   | _,_=>none
 | _=>none
variable {st xt el e2 : TypeId} {i : TypeInfo} {z : Value} {ts : List TypeId} {sLen sCap : Nat} {new : Array Value} {t : TypeId}
theorem run_append_grow {base:Option Addr}{x:Value}{qN:Array Value}(o:P.underlying st=some (.slice el))(h:P.underlying xt=some (.slice e2))(hi:P.info? el=some i)(p:i.zero=some z)(q:i.bytes≤4096)(m:sLen+n≤2097152)(b:sCap<sLen+n)(e:(Builtin.lenOf x).run P w=.ok n w)(u:∀ w', w'.heap=w.heap→(Builtin.firstCells i.size sLen (.slice base sLen sCap)).run P w' = .ok qN w')(v:∀ w', w'.heap=w.heap→(Builtin.firstCells i.size n x).run P w' = .ok new w') :
  ∃ w' cap,(Builtin.append_ (st::xt::ts).toArray t #[.slice base sLen sCap,x]).run P w=.ok (.slice (some ⟨w.heap.size,0,none⟩) (sLen+n) cap) w' ∧ sLen+n≤cap ∧
   w'.heap=w.heap.push (.cells (qN++new++Builtin.zeroCells z.cells (cap-(sLen+n))) el)∧w'.os=w.os∧D0 w' w∧w'.output=w.output:=by
 have j:oK P el=some i.size:=by simp[oK,hi]
 have f:¬ (((sLen+n:Nat):Int)>IntKind.i64.max∧(False∨i.bytes=0)):=by
  have:IntKind.i64.max=9223372036854775807:=by decide
  omega
 have a:¬ (Builtin.nextslicecap (sLen+n) sCap*i.bytes>2 ^ 48):=by
  have h1:=nextslicecap_le (sLen+n) sCap b
  have h2:Builtin.nextslicecap (sLen+n) sCap*i.bytes≤(2*2097152+768)*4096:=Nat.mul_le_mul (by omega) q
  omega
 refine ⟨(w.drew).alloc (.cells (qN++new++Builtin.zeroCells z.cells (Question.cut (.appendCap (sLen+n) sCap el) (w.tape w.drawn (.appendCap (sLen+n) sCap el))-(sLen+n))) el),
  Question.cut (.appendCap (sLen+n) sCap el) (w.tape w.drawn (.appendCap (sLen+n) sCap el)),?_,Nat.le_add_right _ _,rfl,rfl,⟨rfl,Nat.le_succ _⟩,rfl⟩
 have k:=u w.drew rfl
 have l:=v w.drew rfl
 have hzero:(zeroValue el).run P w.drew=.ok z w.drew:=by simp[zeroValue,cK hi,p]
 simp only[Builtin.append_,Sem.run_bind,List.getElem?_toArray,List.getElem?_cons_zero,List.getElem?_cons_succ,ag o,ag h,Result.andThen_ok,run_sizeOf j,Sem.run_pure,
  Bool.false_eq_true,if_false,e]
 rw[if_neg (by omega)]
 simp only[Sem.run_bind,cK hi,Result.andThen_ok]
 rw[if_neg f]
 simp only[Sem.run_bind,cK hi,Result.andThen_ok]
 rw[if_neg a]
 simp only[Sem.run_bind,run_choose,Question.forced,Bool.false_eq_true,if_false,Result.andThen_ok,cK hi,run_askRoom,World.drew_eq,k,l,Bool.not_false,if_true,hzero,newRow,run_newObj,Sem.run_pure]
 rfl
theorem run_append_fits {a:Addr}{x:Value}(k:P.underlying st=some (.slice el))(f:P.underlying xt=some (.slice e2))(hi:P.info? el=some i)(b:sLen+n≤sCap)(e:(Builtin.lenOf x).run P w=.ok n w)(l:(Builtin.firstCells i.size n x).run P w=.ok new w)(h:(storeCells (a.add (sLen*i.size)) new.toList).run P w=.ok () w') :
  (Builtin.append_ (st::xt::ts).toArray t #[.slice (some a) sLen sCap,x]).run P w=.ok (.slice (some a) (sLen+n) sCap) w' := by
 have j:oK P el=some i.size:=by simp[oK,hi]
 simp only[Builtin.append_,Sem.run_bind,List.getElem?_toArray,List.getElem?_cons_zero,List.getElem?_cons_succ,ag k,ag f,Result.andThen_ok,run_sizeOf j,Sem.run_pure,
  Bool.false_eq_true,if_false,e]
 rw[if_pos b]
 simp only[Sem.run_bind,Bool.not_false,if_true,l,Result.andThen_ok,h,Sem.run_pure]
theorem yu {b:Option Addr}{x:Value}(l:P.underlying st=some (.slice el))(h:P.underlying xt=some (.slice e2))(hi:P.info? el=some i)(e:sLen≤sCap)(f:(Builtin.lenOf x).run P w=.ok 0 w)(k:(Builtin.firstCells i.size 0 x).run P w=.ok #[] w) :
  (Builtin.append_ (st::xt::ts).toArray t #[.slice b sLen sCap,x]).run P w=.ok (.slice b sLen sCap) w:=by
 have j:oK P el=some i.size:=by simp[oK,hi]
 simp only[Builtin.append_,Sem.run_bind,List.getElem?_toArray,List.getElem?_cons_zero,List.getElem?_cons_succ,ag l,ag h,Result.andThen_ok,run_sizeOf j,Sem.run_pure,
  Bool.false_eq_true,if_false,f,Nat.add_zero]
 rw[if_pos e]
 cases b with
 | none=>simp only[Sem.run_bind,Bool.not_false,if_true,k,Result.andThen_ok,Sem.run_pure]
 | some a=>simp only[Sem.run_bind,Bool.not_false,if_true,k,Result.andThen_ok,Sem.run_pure,storeCells]
variable {S' : af} {r : AV}
theorem xJ {w1:World}(hi:Inv S g w){cap:Nat}{zs:Nat}(h:eC S sz es=some (r,S'))(p:nW g sz es c)(b:c.size=es.length*sz)(q:d.size=(cap-es.length)*sz)(f:es.length≤cap)(hh:w1.heap=w.heap.push (.cells (c++d) el))(u:w1.os=w.os)(v:D0 w1 w)(A:w1.output=w.output)(B:zs=w.heap.size) :
  ∃ g', VR g' r (.slice (some ⟨zs,0,none⟩) es.length cap)∧Inv S' g' w1∧Ext S g w S' g' w1:=by
 subst B
 unfold eC at h
 split at h<;>simp only[an,gU,reduceCtorEq] at h
 rename_i k
 obtain⟨rfl,rfl⟩:=h
 simp only[Bool.and_eq_true] at k
 have c2:=ed k.1
 have c3:=ed k.2
 have m:=p.more d b
 obtain ⟨C,D⟩:=hi.alloc (w' := w1) (by omega) (o:=.arr sz es) (ob:=.cells (c++d) el) (l:=⟨w.heap.size,0,sz,(c++d).size⟩) rfl
  ⟨c++d,el,rfl,rfl,rfl,by simpa using m.1,m.2.1,fun i j e a y E F G=>m.2.2 i j e a y E F (by simpa using G)⟩ hh u v A c3
 refine⟨_,?_,C,D⟩
 have:=VR.ak (g:=g.add S.nx ⟨w.heap.size,0,sz,(c++d).size⟩) (id:=S.nx) (off:=0) (len:=es.length) (cap:=cap) (Gh.add_same _ _ _) f
  (by simp[b,q];rw[←Nat.add_mul];congr 1;omega)
 simpa using this
def zb (P:Program)(S:af)(ts:List TypeId)(s x:AV):Option (AV×af):=
 match ts with
 | st::xt::_=>match P.underlying st,P.underlying xt,s,x with
   | some (.slice el),some (.int _),.ax,.sc (.int .i64 (.ofNat n))=>match P.info? el,gZ P el with
     | some i,some z=>match Nat.ble 1 n&&Nat.ble n 1048576&&Nat.ble 1 i.size&&Nat.ble i.bytes 4096&&Nat.beq z.cells.length i.size&&z.cells.all cV with
       | true=>eC S i.size (List.replicate n z)
       | false=>none
     | _,_=>none
   | _,_,_,_=>none
 | _=>none
theorem xp {q:IntKind}{k:IntKind}(u:P.underlying st=some (.slice el))(j:P.underlying xt=some (.int q))(hi:P.info? el=some i)(v:i.zero=some z)(p:i.bytes≤4096)(h1:1≤n)(h2:n≤1048576)(h3:1≤i.size) :
  ∃ w' cap,(Builtin.append_ (st::xt::ts).toArray t #[.slice none 0 0,.int k n]).run P w=.ok (.slice (some ⟨w.heap.size,0,none⟩) n cap) w' ∧ n≤cap ∧
   w'.heap=w.heap.push (.cells (Builtin.zeroCells z.cells n++Builtin.zeroCells z.cells (cap-n)) el)∧w'.os=w.os∧D0 w' w∧w'.output=w.output:=by
 have l:oK P el=some i.size:=by simp[oK,hi]
 have A:IntKind.i64.wrap (n:Int)=n:=uX (by omega)
 have a:n*i.bytes≤1048576*4096:=Nat.mul_le_mul h2 p
 have b:¬ ((n:Int)*(i.bytes:Int)>2 ^ 48):=by
  have h:=Int.ofNat_le.2 a
  rw[Int.natCast_mul] at h
  omega
 have f:¬ (((0+n:Nat):Int)>IntKind.i64.max∧(True∨i.bytes=0)):=by
  have:IntKind.i64.max=9223372036854775807:=by decide
  omega
 have e:¬ (Builtin.nextslicecap (0+n) 0*i.bytes>2 ^ 48):=by
  have h1:=nextslicecap_le (0+n) 0 (by omega)
  have h2:Builtin.nextslicecap (0+n) 0*i.bytes≤(2*1048576+768)*4096:=Nat.mul_le_mul (by omega) p
  omega
 have m:¬ (n*i.size=0):=by
  have:1*1≤n*i.size:=Nat.mul_le_mul h1 h3
  omega
 refine ⟨(w.drew).alloc (.cells (Builtin.zeroCells z.cells n++Builtin.zeroCells z.cells (Question.cut (.appendCap (0+n) 0 el) (w.tape w.drawn (.appendCap (0+n) 0 el))-n)) el),
  Question.cut (.appendCap (0+n) 0 el) (w.tape w.drawn (.appendCap (0+n) 0 el)),?_,Nat.le_trans (show n≤0+n by omega) (Nat.le_add_right _ _),rfl,rfl,⟨rfl,Nat.le_succ _⟩,rfl⟩
 have hzero:(zeroValue el).run P w.drew=.ok z w.drew:=by simp[zeroValue,cK hi,v]
 have o:(asInt (.int k (n:Int))).run P w=.ok (n:Int) w:=rfl
 simp only[Builtin.append_,Sem.run_bind,List.getElem?_toArray,List.getElem?_cons_zero,List.getElem?_cons_succ,ag u,ag j,Result.andThen_ok,run_sizeOf l,Sem.run_pure,
  if_true,o,A]
 rw[if_neg (by omega)]
 simp only[Sem.run_bind,cK hi,Result.andThen_ok]
 rw[if_neg b]
 simp only[Sem.run_bind,Sem.run_pure,Result.andThen_ok,Int.toNat_natCast]
 rw[if_neg (by omega)]
 simp only[Sem.run_bind,cK hi,Result.andThen_ok]
 rw[if_neg f]
 simp only[Sem.run_bind,cK hi,Result.andThen_ok]
 rw[if_neg e]
 simp only[Sem.run_bind,run_choose,Question.forced,Bool.false_eq_true,if_false,Result.andThen_ok,cK hi,run_askRoom,World.drew_eq,Builtin.firstCells,Sem.run_pure,Bool.not_true,m,hzero,newRow,run_newObj,Nat.zero_add,Array.empty_append]
 rfl
variable {s : AV} {sv xv : Value}
theorem Bm (hi:Inv S g w)(h:zb P S ts s x=some (r,S'))(G:VR g s sv)(hx:VR g x xv) :
  ∃ z w' g', (Builtin.append_ ts.toArray t #[sv,xv]).run P w=.ok z w' ∧ VR g' r z∧Inv S' g' w' ∧ Ext S g w S' g' w' := by
 unfold zb at h
 split at h<;>try (simp at h;done)
 rename_i st xt ts
 split at h<;>try (simp at h;done)
 rename_i el Q n A B
 split at h<;>try (simp at h;done)
 rename_i i z a j
 split at h<;>try (simp at h;done)
 rename_i E
 simp only[Bool.and_eq_true] at E
 obtain⟨⟨⟨⟨⟨o,p⟩,q⟩,u⟩,v⟩,H⟩:=E
 have o:=ed o
 have p:=ed p
 have q:=ed q
 have u:=ed u
 have v:=jj v
 obtain ⟨b,C,D⟩:∃ b,i.zero=some b∧VR g z b:=by
  unfold gZ at j
  rw[a] at j
  simp only at j
  split at j<;>simp only[an,reduceCtorEq] at j
  rename_i b e;subst j;exact⟨b,e,rW g b⟩
 have l:=jq D H
 have f:b.cells.size=i.size:=by rw[←l.1,v]
 cases G with | ax=>?_
 cases hx with | sc _=>?_
 obtain⟨w', cap,I,J,K,L,M,N⟩:=xp (P:=P) (w:=w) (ts:=ts) (k:=.i64) (t:=t) A B a C u o p q
 have F:=vQ (n:=n) (m:=n) l (Nat.le_refl _)
 rw[f] at F
 obtain ⟨g', v1,O,v3⟩:=xJ (w1:=w') (el:=el) (cap:=cap) (c:=Builtin.zeroCells b.cells n) (d:=Builtin.zeroCells b.cells (cap-n)) hi h (by simpa [Builtin.zeroCells,f] using F) (by simp[Builtin.zeroCells,f]) (by simp[Builtin.zeroCells,f])
  (by simpa using J) K L M N rfl
 exact⟨_,w', g', I,by simpa using v1,O,v3⟩
theorem Ext.del {S:af}{g:Gh}{w:World}{id:Nat}(h:Ok id)(a:S.lim≤id):Ext S g w (S.del id) g w:=
 Ext.forget (af.CZ h) fun k b=>af.bQ h (by omega)
theorem Az (hi:Inv S g w)(h:jZ P S ts s x=some (r,S'))(N:VR g s sv)(hx:VR g x xv) :
   ∃ z w' g', (Builtin.append_ ts.toArray t #[sv,xv]).run P w=.ok z w' ∧ VR g' r z∧Inv S' g' w' ∧ Ext S g w S' g' w' := by
 unfold jZ at h
 split at h<;>try (simp at h;done)
 rename_i st xt ts
 split at h<;>try (simp at h;done)
 rename_i el e2 V W
 split at h<;>try (simp at h;done)
 rename_i i z xs p hz hxs
 split at h<;>try (simp at h;done)
 rename_i G
 simp only[Bool.and_eq_true] at G
 obtain⟨⟨⟨⟨b1,b2⟩,b3⟩,b4⟩,b5⟩:=G
 have b2:=ed b2
 have b3:=ed b3
 have b4:=jj b4
 have hsz:oK P el=some i.size:=by simp[oK,p]
 obtain ⟨O,hzi,hzv⟩:∃ O,i.zero=some O∧VR g z O:=by
   unfold gZ at hz
   rw[p] at hz
   simp only at hz
   split at hz<;>simp only[an,reduceCtorEq] at hz
   rename_i O e;subst hz;exact⟨O,e,rW g O⟩
 have hzs:O.cells.size=i.size:=by rw[←(jq hzv b5).1,b4]
 have hzc:∀ k,(Builtin.zeroCells O.cells k).size=k*i.size:=by intro k;simp[Builtin.zeroCells,hzs]
 obtain⟨xa,xcap,D,hxe,hxcap,X,Y,B⟩:=pZ (P:=P) hi hxs hx b1
 have Z:∀ w', (Builtin.lenOf xv).run P w' = .ok xs.length w' := by intro w';rw[hxe];rfl
 split at h
 ·
   split at h<;>try (simp at h;done)
   rename_i es C
   split at h<;>simp only[an,gU,reduceCtorEq] at h
   rename_i hsd
   obtain⟨rfl,rfl⟩:=h
   obtain⟨sa,f,sc,A,hsc,_,_,_⟩:=pZ (P:=P) hi C N hsd
   refine⟨sv,w,g,?_,N,hi,Ext.refl _ _ _⟩
   rw[A]
   refine yu V W p hsc (Z w) ?_
   have h0:=X w rfl
   simp only[List.length_nil] at h0
   rw[h0]
   have:D.size=0:=by rw[B];simp
   rw[Array.eq_empty_of_size_eq_zero this]
 · rename_i q u
   have grow:∀(S0:af) (es:List AV) (sb:Option Addr) (f:Nat) (sc:Array Value),Inv S0 g w→eC S0 i.size (es++q::u)=some (r,S')→(es++q::u).length≤1048576→f<es.length+(q::u).length →
       (∀ w', w'.heap=w.heap→(Builtin.firstCells i.size es.length (.slice sb es.length f)).run P w' = .ok sc w')→nW g i.size es sc→sc.size=es.length*i.size →
       ∃ z w' g', (Builtin.append_ (st::xt::ts).toArray t #[.slice sb es.length f,xv]).run P w=.ok z w' ∧ VR g' r z∧Inv S' g' w' ∧ Ext S0 g w S' g' w' := by
     intro S0 es sb f sc hi0 hnew m J hrun hE E
     obtain⟨w', cap,Q,R,T,r4,r5,r6⟩:=run_append_grow (P:=P) (ts:=ts) (t:=t) V W p hzi b3 (by simp at m ⊢;omega) J (Z w) hrun X
     obtain ⟨g', v1,v2,v3⟩:=xJ (w1:=w') (el:=el) (cap:=cap) hi0 hnew (hE.append Y E) (by simp[E,B,Nat.add_mul]) (d:=Builtin.zeroCells O.cells (cap-(es.length+(q::u).length)))
       (by rw[hzc];simp) (by simp at R ⊢;omega) T r4 r5 r6 rfl
     exact⟨_,w', g', Q,by simpa using v1,v2,v3⟩
   split at h<;>try (simp at h;done)
   · split at h<;>try (simp at h;done)
     rename_i m
     have m:=ed m
     cases N with | ax=>?_
     exact grow S [] none 0 #[] hi (by simpa using h) (by simpa using m) (by simp) (by intro w' _;simp[Builtin.firstCells]) ⟨by simp,by simp,by simp⟩ (by simp)
   · split at h<;>try (simp at h;done)
     rename_i m
     have m:=ed m
     cases N with | dV=>?_
     rename_i a
     refine grow S [] a 0 #[] hi (by simpa using h) (by simpa using m) (by simp) ?_ ⟨by simp,by simp,by simp⟩ (by simp)
     intro w' _;cases a<;>simp[Builtin.firstCells,loadCells,loadCellsFrom]
   · rename_i id off len
     split at h
     · rename_i S2 F
       simp only[an,gU] at h
       obtain⟨rfl,rfl⟩:=h
       unfold w8 at F
       split at F<;>try (simp at F;done)
       rename_i sz es hg
       split at F<;>simp only[an,reduceCtorEq] at F
       rename_i hc
       simp only[Bool.and_eq_true] at hc
       have d1:=jj hc.1.1
       have d2:=ed hc.1.2
       have d3:=ed hc.2
       subst F
       subst d1
       obtain⟨l,q1,q2,q3⟩:=hi.ob _ _ hg
       obtain⟨w', Q,R,T⟩:=Ae (P:=P) (off:=off+len) hi hg d2 q1 b1 Y B d3
       obtain⟨c,t', p1,p2,L,p4,p5,p6⟩:=q3
       have hmul:(off+len+(q::u).length)*i.size≤es.length*i.size:=ue _ d3
       cases N with
       | fI M hz=>
         exfalso
         rw[q1] at M;simp only[an] at M;subst M
         rw[L] at hz
         rw[Nat.add_mul,Nat.add_mul] at hmul
         have:1*1≤(q::u).length*i.size:=Nat.mul_le_mul (by simp) b2
         omega
       | ak M J I=>
         rename_i cap lq
         rw[q1] at M;simp only[an] at M;subst M
         rw[L] at I ⊢
         have m:(off+len+(q::u).length)*i.size≤(off+cap)*i.size:=by omega
         have hle2:=Nat.le_of_mul_le_mul_right m (by omega)
         have ha:(⟨l.bO,l.base+off*i.size,none⟩:Addr).add (len*i.size)=⟨l.bO,l.base+(off+len)*i.size,none⟩:=by
          rw[Addr.mR,Nat.add_mul,Nat.add_assoc]
         refine⟨_,w', g,run_append_fits V W p (by omega) (Z w) (X w rfl) (by rw[ha];exact Q),?_,R,T⟩
         have:=VR.ak (g:=g) (id:=id) (off:=off) (len:=len+(q::u).length) (cap:=cap) q1 (by omega) (by rw[L];exact I)
         rw[L] at this;exact this
     split at h<;>try (simp at h;done)
     rename_i sz es' es hg C
     split at h<;>try (simp at h;done)
     rename_i G
     simp only[Bool.and_eq_true] at G
     have c1:=ed G.1.1.1
     have c3:=ed G.1.2
     have c4:=jj G.2
     obtain⟨sa,f,sc,A,hsc,hsr,hsE,E⟩:=pZ (P:=P) hi C N G.1.1.2
     have aH:=af.dG hg
     by_cases hfit:es.length+(q::u).length≤f
     ·
       cases N with
       | fI=>
         simp only[Value.slice.injEq] at A
         exfalso;simp at hfit;omega
       | ak M J I=>
         rename_i cap l
         simp only[Value.slice.injEq] at A
         obtain⟨e1,e2,e3⟩:=A
         subst e3
         obtain⟨l', q1,q2,q3⟩:=hi.ob _ _ hg
         rw[M] at q1;simp only[an] at q1;subst q1
         obtain⟨c,t', p1,p2,L,p4,p5,p6⟩:=q3
         have hes' : es=(es'.drop off).take len∧off+len≤es'.length:=by
          simp only[gl,pd,hg] at C
          split at C<;>simp only[an,reduceCtorEq] at C
          rename_i m;exact⟨C.symm,ed m⟩
         obtain⟨hes1,hes2⟩:=hes'
         have hxc1:∀ k,k<D.size→∃ e a,(q::u)[k/i.size]? = some e∧e.cells[k%i.size]? = some a∧cV a=true:=by
          intro k hk
          rw[B] at hk
          have h1:k/i.size<(q::u).length:=Nat.div_lt_of_lt_mul (by rw[Nat.mul_comm];exact hk)
          have h2:k%i.size<i.size:=Nat.mod_lt _ (by omega)
          obtain⟨s1,s2⟩:=jr b1 (List.getElem_mem h1)
          have h3:k%i.size<(q::u)[k/i.size].cells.length:=by rw[s1];exact h2
          exact⟨_,_,nA h1,nA h3,List.all_eq_true.1 s2 _ (List.getElem_mem h3)⟩
         have hone:∀ y,y∈D.toList→y.oneCell' = true:=by
          intro y hy
          obtain⟨k,hk⟩:=List.getElem?_of_mem hy
          have hk' : D[k]? = some y:=by simpa using hk
          obtain⟨e,a,U,f2,f3⟩:=hxc1 k (Array.getElem?_eq_some_iff.1 hk').1
          refine mU f3 (Y.2.2 _ _ e a y U f2 ?_)
          rw[←hk'];congr 1;rw[Nat.mul_comm];exact Nat.div_add_mod k i.size
         have hroom:l.base+off*l.sz+len*i.size+D.toList.length≤c.size:=by
          rw[p2,show D.toList.length=D.size from Array.length_toList,B]
          have:(off+(len+(q::u).length))*l.sz≤(off+cap)*l.sz:=ue _ (by omega)
          rw[Nat.add_mul,Nat.add_mul,L,c4] at this
          rw[L,c4] at I ⊢
          omega
         obtain⟨w', Q,R,T,r4,r5,r6,r7⟩:=mZ (P:=P) (b:=l.bO) (o:=l.base+off*l.sz+len*i.size) (t:=t') D.toList w c 0 p1 (by omega) hone
         unfold eC at h
         split at h<;>simp only[an,gU,reduceCtorEq] at h
         rename_i hn2
         obtain⟨rfl,rfl⟩:=h
         simp only[Bool.and_eq_true] at hn2
         have d2:S.nx+1≤8192:=ed hn2.1
         have hxl2:D.toList.length=(q::u).length*i.size:=by rw[show D.toList.length=D.size from Array.length_toList];exact B
         have K:(es++q::u).length=len+(q::u).length:=by rw[List.length_append,e2]
         have hsz' : (jF c.toList (l.base+off*l.sz+len*i.size+0) D.toList).toArray.size=l.bz:=by simp[fB,p2]
         obtain ⟨m1,m2⟩:=hi.move (w' := w') (by omega) (o' := .arr i.size (es++q::u)) (l' := ⟨l.bO,l.base+off*l.sz,i.size,l.bz⟩) hg c3 M rfl r4 R T r5 r6 r7 (by
          refine⟨_,t', rfl,hsz', rfl,?_,?_,?_⟩
          · rw[hsz', K,←p2]
            have:(q::u).length*i.size=D.toList.length:=hxl2.symm
            rw[Nat.add_mul,this]
            show l.base+off*l.sz+(len*i.size+D.toList.length)≤c.size
            omega
          · intro e he
            rcases List.mem_append.1 he with k | k
            · rw[hes1] at k;rw[p5 e (List.mem_of_mem_drop (List.mem_of_mem_take k)),c4]
            · exact(jr b1 k).1
          · intro H j e a y U f2 f3
            rw[List.getElem?_toArray,gG _ _ _ (by simp at hroom ⊢;omega)] at f3
            simp only[Nat.add_zero] at f3
            by_cases hi2:H<es.length
            · rw[List.getElem?_append_left hi2] at U
              have hi3:H<len:=by omega
              have f1' : es'[off+H]? = some e:=by
               rw[hes1,List.getElem?_take,if_pos hi3,List.getElem?_drop] at U;exact U
              have hj:j<i.size:=by rw[←c4,←p5 e (sq f1')];exact(List.getElem?_eq_some_iff.1 f2).1
              have hm:H*i.size+i.size≤len*i.size:=by
               have:(H+1)*i.size≤len*i.size:=ue _ hi3
               rw[Nat.succ_mul] at this;exact this
              rw[if_neg (by omega)] at f3
              refine p6 (off+H) j e a y f1' f2 ?_
              rw[←Array.getElem?_toList,←f3];congr 1
              rw[L,c4,Nat.add_mul];omega
            · rw[List.getElem?_append_right (by omega)] at U
              have hi3:H-es.length<(q::u).length:=(List.getElem?_eq_some_iff.1 U).1
              have hj:j<i.size:=by rw[←(jr b1 (sq U)).1];exact(List.getElem?_eq_some_iff.1 f2).1
              have hm:(H-es.length)*i.size+i.size≤D.toList.length:=by
               have:(H-es.length+1)*i.size≤(q::u).length*i.size:=ue _ hi3
               rw[Nat.succ_mul] at this;rw[hxl2];exact this
              have hi4:H*i.size=len*i.size+(H-es.length)*i.size:=by
               rw[←Nat.add_mul];congr 1;omega
              rw[if_pos (by omega)] at f3
              refine Y.2.2 _ j e a y U f2 ?_
              rw[←Array.getElem?_toList,←f3];congr 1
              omega)
         refine⟨_,w', _,run_append_fits V W p (by omega) (Z w) (X w rfl) (by rw[Addr.mR];exact Q),?_,m1,m2⟩
         have hv:=VR.ak (g:=g.add S.nx ⟨l.bO,l.base+off*l.sz,i.size,l.bz⟩) (id:=S.nx) (off:=0) (len:=(es++q::u).length) (cap:=cap) (Gh.add_same _ _ _) (by rw[K];omega)
          (by
            show l.base+off*l.sz+(0+cap)*i.size=l.bz
            rw[Nat.add_mul,L,c4] at I
            rw[L,c4,Nat.zero_add];omega)
         rw[K] at hv ⊢
         rw[show(S.del id).nx=S.nx from rfl]
         simpa using hv
     · obtain⟨z,w', g', Q,R,T,r4⟩:=grow (S.del id) es sa f sc (hi.sub (af.CZ aH)) (by simpa using h) (by simp at c1 ⊢;omega) (by omega) (by rw[←A];exact hsr) hsE E
       exact⟨z,w', g', by rw[A];exact Q,R,T,(Ext.del aH c3).trans r4⟩
   · rename_i v
     split at h<;>try (simp at h;done)
     rename_i es C
     split at h<;>try (simp at h;done)
     rename_i G
     simp only[Bool.and_eq_true] at G
     have c1:=ed G.1
     obtain⟨sa,f,sc,A,hsc,hsr,hsE,E⟩:=pZ (P:=P) hi C N G.2
     cases N with | clip hv=>?_
     simp only[Value.slice.injEq] at A
     obtain⟨rfl,e2,e3⟩:=A
     subst e3
     subst e2
     obtain⟨z,w', g', Q,R,T,r4⟩:=grow S es _ _ sc hi h (by simp at c1 ⊢;omega) (by simp) hsr hsE E
     exact⟨z,w', g', Q,R,T,r4⟩
end
end Go.Eng
namespace Go.Eng
noncomputable section
def xy (P:Program)(S:af)(t:TypeId)(x:AV):Option Nat:=
 match P.underlying t,x with
 | some .string,.sc (.string s)=>some s.size
 | some (.array n _),_=>some n
 | some (.slice _),.lit es=>some es.length
 | some (.slice _),.ak _ _ n=>some n
 | some (.slice _),.dV=>some 0
 | some (.slice _),.ax=>some 0
 | some (.map _ _),.sc (.map none)=>some 0
 | some (.map _ _),.dm id=>match S.get id with
   | some (.mp c)=>some c.length
   | _=>none
 | _,_=>none
variable {P : Program} {S : af} {g : Gh} {w : World} {t ty : TypeId} {ts : List TypeId} {y : Value} {n : Nat}
theorem xK (hi:Inv S g w){x:AV}(h:xy P S t x=some n)(e:VR g x y) :
   (Builtin.len_ (t::ts).toArray ty #[y]).run P w=.ok (.int .i64 n) w:=by
 unfold xy at h
 split at h<;>(try simp only[an,reduceCtorEq] at h)
 · rename_i c;subst h;cases e with | sc _=>simp[Builtin.len_,ag c,goInt]
 · rename_i c;subst h;cases y<;>simp[Builtin.len_,goInt,ag c]
 · rename_i c;subst h;cases e<;>simp[Builtin.len_,ag c,goInt]
 · rename_i c;subst h;cases e<;>simp[Builtin.len_,ag c,goInt]
 · rename_i c;subst h;cases e<;>simp[Builtin.len_,ag c,goInt]
 · rename_i c;subst h;cases e<;>simp[Builtin.len_,ag c,goInt]
 · rename_i c;subst h;cases e with | sc _=>simp[Builtin.len_,ag c,goInt]
 · rename_i id c
   split at h<;>simp only[an,reduceCtorEq] at h
   rename_i s i
   subst h
   cases e with
   | dm j=>
     obtain⟨l', f,u,o⟩:=hi.ob _ _ i
     rw[j] at f;simp only[an] at f;subst f
     obtain⟨es,k,p,q,v⟩:=o
     simp[Builtin.len_,ag c,goInt,getObj,Sem.run,p,q]
def Ln (P:Program)(t:TypeId)(x:AV):Option Nat:=
 match P.underlying t,x with
 | some (.slice _),.dV=>some 0
 | some (.slice _),.ax=>some 0
 | _,_=>none
theorem Fi {x:AV}(h:Ln P t x=some n)(f:VR g x y) :
   (Builtin.cap_ (t::ts).toArray ty #[y]).run P w=.ok (.int .i64 n) w:=by
 unfold Ln at h
 split at h<;>simp only[an,reduceCtorEq] at h
 · rename_i e c
   subst h
   cases f
   simp[Builtin.cap_,ag c,goInt]
 · rename_i e c
   subst h
   cases f
   simp[Builtin.cap_,ag c,goInt]
def tO (P:Program)(t:TypeId)(a c:AV):Option AV:=
 match P.underlying t,a,sP c with
 | some (.array len el),.agg cs,some k=>match Nat.ble (k+1) len,oK P el with
   | true,some n=>zI P el cs (k*n)
   | _,_=>none
 | some .string,.sc (.string s),some k=>match s[k]? with
   | some b=>some (.sc (.int .u8 b.toNat))
   | none=>none
 | _,_,_=>none
variable {x : Value} {a r : AV}
theorem Bn {j:AV}(h:tO P t a j=some r)(o:VR g a x)(hx:VR g j y):∃ z,(Instr.index t x y).run P w=.ok z w∧VR g r z:=by
 unfold tO at h
 split at h<;>try (simp at h;done)
 · rename_i len el cs k f i
   obtain⟨p,rfl⟩:=gp i hx
   split at h<;>try (simp at h;done)
   rename_i n c q
   have c:=ed c
   cases o with
   | agg u hh=>
     obtain⟨z,e,v⟩:=sH (P:=P) (w:=w) h ⟨u,hh⟩
     refine⟨z,?_,v⟩
     simp only[Instr.index,asIntOf,Sem.run_bind,Sem.run_pure,Result.andThen_ok,ag f]
     rw[if_pos (by constructor<;>simp;omega)]
     simp only[Sem.run_bind,run_sizeOf q,Result.andThen_ok]
     exact e
 · rename_i s k f i
   obtain⟨p,rfl⟩:=gp i hx
   split at h<;>simp only[an,reduceCtorEq] at h
   rename_i b A
   subst h
   cases o with
   | sc _=>exact⟨_,by simp[Instr.index,asIntOf,ag f,A],.sc rfl⟩
def BN (isMax:Bool):List AV→Option AV
 | [.sc (.int .i64 a)]=>some (.sc (.int .i64 a))
 | [.sc (.int k a),.sc (.int c b)]=>if k=c then some (.sc (.int k (match isMax with
  | true=>if b>a then b else a
  | false=>if b<a then b else a))) else none
 | _=>none
def CI (P:Program)(S:af)(ts:List TypeId)(d x:AV):Option (Nat×af):=
 match ts with
 | t::_=>match P.underlying t,d with
   | some (.slice el),.ak id off len=>match S.get id,gl S x,oK P el with
     | some (.arr sz es),some xs,some n=>match Nat.beq sz n&&Nat.ble S.lim id&&Nat.ble (off+len) es.length&&sized n xs with
       | true=>some (min xs.length len,S.set id (.arr sz (jF es off (xs.take (min xs.length len)))))
       | false=>none
     | _,_,_=>none
   | _,_=>none
 | _=>none
variable {l : List AV} {xs : Array Value}
theorem Fj {ts:Array TypeId}(h:BN true l=some r)(f:fe g l xs):∃ z,(Builtin.max_ ts t xs).run P w=.ok z w∧VR g r z:=by
 unfold BN at h
 split at h<;>try (simp at h;done)
 · obtain⟨x,e,hx⟩:=f.get (k:=0) rfl
   have i:xs.size=1:=f.1.symm
   have c:xs.toList=[x]:=by
    apply List.ext_getElem?;intro k
    match k with
    | 0=>simpa using e
    | k+1=>rw[List.getElem?_eq_none (by simp[i])];simp
   simp only[an] at h;subst h
   cases hx with | sc _=>exact⟨_,by simp[Builtin.max_,c],.sc rfl⟩
 · obtain⟨x,e,hx⟩:=f.get (k:=0) rfl
   obtain⟨y,j,o⟩:=f.get (k:=1) rfl
   have i:xs.size=2:=f.1.symm
   have c:xs.toList=[x,y]:=by
    apply List.ext_getElem?;intro k
    match k with
    | 0=>simpa using e
    | 1=>simpa using j
    | k+2=>rw[List.getElem?_eq_none (by simp[i])];simp
   split at h<;>simp only[an,reduceCtorEq] at h
   rename_i p;subst p;subst h
   cases hx with | sc _=>?_
   cases o with | sc _=>?_
   exact⟨_,by simp[Builtin.max_,c,Builtin.max2],.sc rfl⟩
theorem Fk {ts:Array TypeId}(h:BN false l=some r)(f:fe g l xs):∃ z,(Builtin.min_ ts t xs).run P w=.ok z w∧VR g r z:=by
 unfold BN at h
 split at h<;>try (simp at h;done)
 · obtain⟨x,e,hx⟩:=f.get (k:=0) rfl
   have i:xs.size=1:=f.1.symm
   have c:xs.toList=[x]:=by
    apply List.ext_getElem?;intro k
    match k with
    | 0=>simpa using e
    | k+1=>rw[List.getElem?_eq_none (by simp[i])];simp
   simp only[an] at h;subst h
   cases hx with | sc _=>exact⟨_,by simp[Builtin.min_,c],.sc rfl⟩
 · obtain⟨x,e,hx⟩:=f.get (k:=0) rfl
   obtain⟨y,j,o⟩:=f.get (k:=1) rfl
   have i:xs.size=2:=f.1.symm
   have c:xs.toList=[x,y]:=by
    apply List.ext_getElem?;intro k
    match k with
    | 0=>simpa using e
    | 1=>simpa using j
    | k+2=>rw[List.getElem?_eq_none (by simp[i])];simp
   split at h<;>simp only[an,reduceCtorEq] at h
   rename_i p;subst p;subst h
   cases hx with | sc _=>?_
   cases o with | sc _=>?_
   exact⟨_,by simp[Builtin.min_,c,Builtin.min2],.sc rfl⟩
theorem nW.take {g:Gh}{n:Nat}{es:List AV}{c:Array Value}(h:nW g n es c)(k:Nat):nW g n (es.take k) c:=
 ⟨Nat.le_trans (ue _ (by simp;omega)) h.1,fun e o=>h.2.1 e (List.mem_of_mem_take o),fun i j e a y f p q=>by
  rw[List.getElem?_take] at f
  split at f
  · exact h.2.2 i j e a y f p q
  · simp at f⟩
variable {es : List AV}
theorem Ey {x:AV}{a:Option Addr}{f k:Nat}(h:pd S x=some es)(q:VR g x (.slice a n f))(p:k≤es.length)(A:k≤f):∃ x', gl S x' = some (es.take k)∧VR g x' (.slice a k f):=by
 unfold pd at h
 split at h<;>try (simp at h;done)
 · simp only[an] at h;subst h
   refine⟨.lit (List.take k _),rfl,?_⟩
   cases q with
   | gi=>simp at p;subst p;exact .gi
   | lit F G u D hh=>
     rename_i es b o sz c
     have v:(es.take k).length=k:=by simp;omega
     have:=VR.lit (g:=g) (es:=es.take k) (cap:=f) F (sz:=sz) (fun e H=>G e (List.mem_of_mem_take H)) (Nat.le_trans (Nat.add_le_add_left (ue _ (by omega)) _) u) (by omega)
      (fun i j e a x s I J=>by
       rw[List.getElem?_take] at s
       split at s
       · exact hh i j e a x s I J
       · simp at s)
     rw[v] at this;exact this
 · rename_i id off len
   split at h<;>try (simp at h;done)
   rename_i sz es' K
   split at h<;>simp only[an,reduceCtorEq] at h
   rename_i B
   have E:=ed B
   subst h
   have v:((es'.drop off).take len).length=len:=by simp;omega
   rw[v] at p
   refine⟨.ak id off k,?_,?_⟩
   · simp only[gl,pd,K]
     rw[show(off+k).ble es'.length=true from sr (by omega)]
     simp only[an]
     rw[List.take_take,Nat.min_eq_left p]
   · cases q with
     | fI L M=>simp at p;subst p;exact .fI L M
     | ak C N u=>exact .ak C A u
 · simp only[an] at h;subst h
   simp at p;subst p
   cases q with | ax=>exact⟨.ax,rfl,.ax⟩
 · simp only[an] at h;subst h
   simp at p;subst p
   cases q with | dV=>exact⟨.dV,rfl,.dV⟩
variable {cap : Nat}
theorem Il {x:AV}{a:Option Addr}(h:pd S x=some es)(e:VR g x (.slice a n cap)):es.length=n∧n≤cap:=by
 unfold pd at h
 split at h<;>try (simp at h;done)
 · simp only[an] at h;subst h
   cases e with
   | gi=>exact⟨rfl,Nat.zero_le _⟩
   | lit q s j c hh=>exact⟨rfl,c⟩
 · split at h<;>try (simp at h;done)
   split at h<;>simp only[an,reduceCtorEq] at h
   rename_i f
   have i:=ed f
   subst h
   cases e with
   | fI=>exact⟨by simp,Nat.zero_le _⟩
   | ak p o j=>exact⟨by simp;omega,o⟩
 · simp only[an] at h;subst h
   cases e with | ax=>exact⟨rfl,Nat.le_refl _⟩
 · simp only[an] at h;subst h
   cases e with | dV=>exact⟨rfl,Nat.le_refl _⟩
theorem OL {x:AV}{a:Option Addr}{k:Nat}(h:gl S x=some es)(c:VR g x (.slice a n cap))(e:k≤es.length):∃ x' c', gl S x' = some (es.take k)∧VR g x' (.slice a k c'):=by
 unfold gl at h
 split at h
 · cases c with | clip c=>?_
   obtain⟨f,i⟩:=Il h c
   obtain⟨x', p,q⟩:=Ey h c e (by omega)
   exact⟨x', _,p,q⟩
 · obtain⟨f,i⟩:=Il h c
   obtain⟨x', p,q⟩:=Ey h c e (by omega)
   exact⟨x', _,p,q⟩
variable {S' : af}
theorem Dn (hi:Inv S g w){d x:AV}{dv xv:Value}(h:CI P S ts d x=some (n,S'))(hd:VR g d dv)(hx:VR g x xv) :
   ∃ w', (Builtin.copy_ ts.toArray t #[dv,xv]).run P w=.ok (.int .i64 n) w' ∧ Inv S' g w' ∧ Ext S g w S' g w' := by
 unfold CI at h
 split at h<;>try (simp at h;done)
 rename_i st ts
 split at h<;>try (simp at h;done)
 rename_i el id off len I
 split at h<;>try (simp at h;done)
 rename_i sz es xs sn F J K
 split at h<;>simp only[an,gU,reduceCtorEq] at h
 rename_i hb
 simp only[Bool.and_eq_true] at hb
 obtain⟨⟨⟨W,T⟩,b3⟩,b4⟩:=hb
 have W:=jj W
 have T:=ed T
 have b3:=ed b3
 obtain⟨rfl,rfl⟩:=h
 subst W
 have q:sized sz (xs.take (min xs.length len))=true:=List.all_eq_true.2 fun e X=>List.all_eq_true.1 b4 e (List.mem_of_mem_take X)
 have f:(xs.take (min xs.length len)).length=min xs.length len:=by simp
 obtain⟨Y,s,xc,hxe,hxcap,_,_,_⟩:=pZ (P:=P) hi J hx b4
 subst hxe
 obtain⟨x', c', hx1,hx2⟩:=OL (k:=min xs.length len) J hx (Nat.min_le_left _ _)
 obtain⟨ya,ycap,cc,A,hycap,L,M,p⟩:=pZ (P:=P) hi hx1 hx2 q
 rw[f] at A L p
 simp only[Value.slice.injEq] at A
 obtain⟨rfl,_,rfl⟩:=A
 have B:(Builtin.firstCells sz (min xs.length len) (.slice Y xs.length s)).run P w=.ok cc w:=by
   rw[←L w rfl];cases Y<;>rfl
 have u:(Builtin.lenOf (.slice Y xs.length s)).run P w=.ok xs.length w:=rfl
 cases hd with
 | fI=>
   rename_i a
   have h0:min xs.length 0=0:=Nat.min_zero _
   rw[h0] at B p ⊢
   have:cc = #[]:=Array.eq_empty_of_size_eq_zero (by rw[p];simp)
   subst this
   refine⟨w,?_,?_⟩
   · simp only[Builtin.copy_,List.getElem?_toArray,List.getElem?_cons_zero,List.getElem?_cons_succ,Sem.run_bind,ag I,Result.andThen_ok,u,run_sizeOf K]
     show((Builtin.firstCells sz (Nat.min xs.length 0) _).run P w).andThen _=_
     rw[show Nat.min xs.length 0=0 from h0,B]
     simp[storeCells,goInt]
   · have e0:jF es off (xs.take 0)=es:=by cases es<;>rfl
     rw[e0]
     have aH:=af.dG F
     obtain⟨l,G,q2,Z⟩:=hi.ob _ _ F
     obtain⟨c,U,p1,p2⟩:=Z
     exact hi.jB F T G rfl p1 (fun _ _=>rfl) rfl ⟨rfl,Nat.le_refl _⟩ rfl ⟨c,U,rfl,p2⟩
 | ak hl hcap hbz=>
   rename_i cap l
   obtain⟨l', G,q2,Z⟩:=hi.ob _ _ F
   rw[hl] at G;simp only[an] at G;subst G
   obtain⟨c,U,p1,p2,H,p4,p5,p6⟩:=Z
   have N:cc.toList.length=min xs.length len*sz:=by rw[show cc.toList.length=cc.size from Array.length_toList];exact p
   have hroom:l.base+off*l.sz+cc.toList.length≤c.size:=by
     rw[N,H]
     have:(off+min xs.length len)*sz≤es.length*sz:=ue _ (by omega)
     rw[Nat.add_mul] at this;omega
   have R:∀ y,y∈cc.toList→y.oneCell' = true:=by
     intro y hy
     obtain⟨k,D⟩:=List.getElem?_of_mem hy
     have O:cc[k]? = some y:=by simpa using D
     have C:k<min xs.length len*sz:=by rw[←p];exact(Array.getElem?_eq_some_iff.1 O).1
     have hsp:0<sz:=by
       rcases Nat.eq_zero_or_pos sz with e | e
       · rw[e] at C;simp at C
       · exact e
     have h1:k/sz<(xs.take (min xs.length len)).length:=by rw[f];exact Nat.div_lt_of_lt_mul (by rw[Nat.mul_comm];exact C)
     have h2:k%sz<sz:=Nat.mod_lt _ hsp
     obtain⟨s1,s2⟩:=jr q (List.getElem_mem h1)
     have h3:k%sz<(xs.take (min xs.length len))[k/sz].cells.length:=by rw[s1];exact h2
     refine mU (List.all_eq_true.1 s2 _ (List.getElem_mem h3)) (M.2.2 _ _ _ _ y (nA h1) (nA h3) ?_)
     rw[←O];congr 1;rw[Nat.mul_comm];exact Nat.div_add_mod k sz
   obtain⟨w', r1,r2,r3,r4,r5,r6,r7⟩:=mZ (P:=P) (b:=l.bO) (o:=l.base+off*l.sz) (t:=U) cc.toList w c 0 p1 (by omega) R
   refine⟨w', ?_,?_⟩
   · simp only[Builtin.copy_,List.getElem?_toArray,List.getElem?_cons_zero,List.getElem?_cons_succ,Sem.run_bind,ag I,Result.andThen_ok,u,run_sizeOf K]
     show((Builtin.firstCells sz (min xs.length len) _).run P w).andThen _=_
     rw[B]
     simp only[Result.andThen_ok,r1,Sem.run_pure]
     rfl
   · refine hi.jB F T hl r4 r2 r3 r5 r6 r7 ⟨_,U,rfl,by simp[fB,p2],H,by simp[fB];exact p4,?_,?_⟩
     · intro e X
       obtain⟨k,D⟩:=List.getElem?_of_mem X
       rw[gG _ _ _ (by rw[f];omega)] at D
       split at D
       · exact(jr q (sq D)).1
       · exact p5 e (sq D)
     · intro i j e a y v V E
       rw[gG _ _ _ (by rw[f];omega),f] at v
       rw[List.getElem?_toArray,gG _ _ _ (by omega),N] at E
       simp only[Nat.add_zero] at E
       by_cases Q:off≤i∧i<off+min xs.length len
       · rw[if_pos Q] at v
         have hj:j<sz:=by rw[←(jr q (sq v)).1];exact(List.getElem?_eq_some_iff.1 V).1
         have hm:(i-off)*sz+sz≤min xs.length len*sz:=by
          have:(i-off+1)*sz≤min xs.length len*sz:=ue _ (by omega)
          rw[Nat.succ_mul] at this;exact this
         have hio:i*sz=off*sz+(i-off)*sz:=by rw[←Nat.add_mul];congr 1;omega
         rw[if_pos (by rw[H];omega)] at E
         refine M.2.2 _ j e a y v V ?_
         rw[←Array.getElem?_toList,←E];congr 1;rw[H];omega
       · rw[if_neg Q] at v
         have hj:j<sz:=by rw[←p5 e (sq v)];exact(List.getElem?_eq_some_iff.1 V).1
         have hne:¬ (l.base+off*l.sz≤l.base+i*sz+j∧l.base+i*sz+j<l.base+off*l.sz+min xs.length len*sz):=by
          rw[H]
          rintro⟨c1,c2⟩
          rcases Nat.lt_or_ge i off with hlt | hge
          · have:(i+1)*sz≤off*sz:=ue _ hlt
            rw[Nat.succ_mul] at this;omega
          · have:(off+min xs.length len)*sz≤i*sz:=ue _ (by omega)
            rw[Nat.add_mul] at this;omega
         rw[if_neg hne] at E
         exact p6 i j e a y v V (by simpa using E)
def C0 (P:Program)(S:af)(ts:List TypeId)(x:AV):Option af:=
 match ts with
 | t::_=>match P.underlying t,x with
   | some (.slice el),.ak id off len=>match gZ P el,S.get id with
     | some z,some (.arr sz es)=>match Nat.beq z.cells.length sz&&z.cells.all cV&&Nat.ble S.lim id&&Nat.ble (off+len) es.length with
       | true=>some (S.set id (.arr sz (jF es off (List.replicate len z))))
       | false=>none
     | _,_=>none
   | _,_=>none
 | _=>none
theorem Bo (hi:Inv S g w){x:AV}(h:C0 P S ts x=some S')(hx:VR g x y) :
   ∃ w', (Builtin.clear_ ts.toArray ty #[y]).run P w=.ok (.tuple #[]) w' ∧ Inv S' g w' ∧ Ext S g w S' g w' := by
 unfold C0 at h
 split at h<;>try (simp at h;done)
 rename_i t ts
 split at h<;>try (simp at h;done)
 rename_i el id off len B
 split at h<;>try (simp at h;done)
 rename_i z sz es M o
 split at h<;>simp only[an,reduceCtorEq] at h
 rename_i I
 simp only[Bool.and_eq_true] at I
 obtain⟨⟨⟨p,J⟩,i⟩,C⟩:=I
 have p:=jj p
 have i:=ed i
 have C:=ed C
 subst h
 obtain⟨D,G,H⟩:=iP (P:=P) (w:=w) (g:=g) M
 have j:=jq H J
 have f:D.cells.size=sz:=by rw[←j.1,p]
 obtain⟨l,q,W,E⟩:=hi.ob _ _ o
 have N:nW g sz (List.replicate len z) (Builtin.zeroCells D.cells len):=by
   have:=vQ (n:=len) (m:=len) j (Nat.le_refl _)
   rw[f] at this
   simpa [Builtin.zeroCells,f] using this
 obtain ⟨w', O,Q,R⟩:=Ae (P:=P) (off:=off) (xs:=List.replicate len z) (cc:=Builtin.zeroCells D.cells len) hi o i q
   (List.all_eq_true.2 fun e T=>by rw[(List.mem_replicate.1 T).2];simp[p,J]) N (by simp[Builtin.zeroCells,f]) (by simpa using C)
 have K:len=0→jF es off (List.replicate len z)=es:=by
   intro h0;subst h0;cases es<;>rfl
 cases hx with
 | fI s U=>
   refine⟨w,by simp[Builtin.clear_,ag B],?_⟩
   rw[K rfl]
   obtain⟨c,u,v,A⟩:=E
   exact hi.jB o i q rfl v (fun _ _=>rfl) rfl ⟨rfl,Nat.le_refl _⟩ rfl ⟨c,u,rfl,A⟩
 | ak s L V=>
   rename_i cap X
   rw[q] at s;simp only[an] at s;subst s
   have F:l.sz=sz:=by obtain⟨c,u,v,A,F,_⟩:=E;exact F
   cases len with
   | zero=>
     refine⟨w,by simp[Builtin.clear_,ag B],?_⟩
     rw[K rfl]
     obtain⟨c,u,v,A⟩:=E
     exact hi.jB o i q rfl v (fun _ _=>rfl) rfl ⟨rfl,Nat.le_refl _⟩ rfl ⟨c,u,rfl,A⟩
   | succ k=>
     refine⟨w', ?_,Q,R⟩
     rw[F]
     simp[Builtin.clear_,ag B,G,O]
def Nl (d:TypeDesc)(a b:AV):Option Bool:=
 match d,a,b with
 | .int _,.sc (.int k x),.sc (.int c y)=>if k=c then some (x==y) else none
 | .string,.sc (.string x),.sc (.string y)=>some (x.data.toList==y.data.toList)
 | .bool,.sc (.bool x),.sc (.bool y)=>some (x==y)
 | _,_,_=>none
def ly (d:TypeDesc)(k:AV):List (AV×AV)→Nat→Option (Option (Nat×AV))
 | [],_=>some none
 | c::r,i=>match Nl d k c.1 with
   | some true=>some (some (i,c.2))
   | some false=>ly d k r (i+1)
   | none=>none
def gL (d:TypeDesc):Bool:=
 match d with
 | .int _=>true
 | .string=>true
 | .bool=>true
 | _=>false
variable {d : TypeDesc} {b : AV}
theorem B4 {r:Bool}(h:Nl d a b=some r)(c:VR g a x)(e:VR g b y):Instr.sameNow d x y=some r:=by
 unfold Nl at h
 split at h<;>try (simp at h;done)
 · cases c with | sc _=>?_
   cases e with | sc _=>?_
   split at h<;>simp only[an,reduceCtorEq] at h
   rename_i f;subst f;subst h;simp[Instr.sameNow]
 · cases c with | sc _=>?_
   cases e with | sc _=>?_
   simp only[an] at h;subst h
   simp only[Instr.sameNow,an]
   rw[beq_toListBytes,ByteArray.toList_eq,ByteArray.toList_eq]
 · cases c with | sc _=>?_
   cases e with | sc _=>?_
   simp only[an] at h;subst h;simp[Instr.sameNow]
variable {k : AV}
theorem pN (C:VR g k x):∀ {c:List (AV×AV)} {es:List MapEntry} {i:Nat} {r:Option (Nat×AV)},ly d k c i=some r→es.length=c.length →
   (∀(j:Nat) (f:AV×AV) (e:MapEntry),c[j]? = some f→es[j]? = some e→VR g f.1 e.key∧VR g f.2 e.val) →
   ∃ q,Instr.findNow d x es i=some q∧(match r,q with
     | none,none=>True
     | some (j,v),some (D,y)=>j=D∧VR g v y∧i≤j∧j<i+c.length∧(∃ f e,c[j-i]? = some f∧es[j-i]? = some e∧Nl d k f.1=some true)
     | _,_=>False):=by
 intro c
 induction c with
 | nil=>
   intro es i r h s _
   simp only[ly,an] at h;subst h
   have:es=[]:=List.eq_nil_of_length_eq_zero (by simpa using s)
   subst this
   exact⟨none,rfl,trivial⟩
 | cons f c G=>
   intro es i r h s E
   cases es with
   | nil=>simp at s
   | cons e es=>
     have h0:=E 0 f e rfl rfl
     simp only[ly] at h
     split at h<;>try (simp at h;done)
     · rename_i u
       simp only[an] at h;subst h
       refine⟨some (i,e.val),?_,rfl,h0.2,Nat.le_refl _,by simp,f,e,by simp,by simp,u⟩
       simp only[Instr.findNow,B4 u C h0.1]
     · rename_i u
       obtain⟨q,H,A⟩:=G h (by simpa using s) (fun j o B p I=>E (j+1) o B (by simpa using p) (by simpa using I))
       refine⟨q,by simp only[Instr.findNow,B4 u C h0.1];exact H,?_⟩
       cases r with
       | none=>cases q with
         | none=>trivial
         | some _=>exact A.elim
       | some J=>
         obtain⟨j,v⟩:=J
         cases q with
         | none=>exact A.elim
         | some K=>
           obtain⟨D,y⟩:=K
           obtain⟨L,a2,a3,a4,o,B,a5,M,N⟩:=A
           have F:j-i=(j-(i+1))+1:=by omega
           exact⟨L,a2,by omega,by simp;omega,o,B,by rw[F];simpa using a5,by rw[F];simpa using M,N⟩
variable {kt : TypeId}
theorem Bp {b:Bool}(c:P.underlying kt=some d)(e:gL d=true):(Instr.checkKey b (n+1) kt x).run P w=.ok () w:=by
 simp only[Instr.checkKey,Sem.run_bind,ag c,Result.andThen_ok]
 cases d<;>first
  | (simp[gL] at e;done)
  | (cases x<;>rfl)
theorem run_checkKey {b:Bool}(c:P.underlying kt=some d)(e:gL d=true):(Instr.checkKey b 10000 kt x).run P w=.ok () w:=
 Bp (n:=9999) c e
theorem run_findKey {es:List MapEntry}{q:Option (Nat×Value)}(c:P.underlying kt=some d)(h:Instr.findNow d x es 0=some q) :
  (Instr.findKey kt x es).run P w=.ok q w:=by
 simp only[Instr.findKey,Sem.run_bind,ag c,Result.andThen_ok,h,Sem.run_pure]
def hJ (P:Program)(S:af)(t:TypeId)(m k:AV)(ok:Bool):Option AV:=
 match P.underlying t with
 | some (.map kt e)=>match P.underlying kt,(match m with
     | .dm id=>match S.get id with
       | some (.mp c)=>some c
       | _=>none
     | .sc (.map none)=>some []
     | _=>none) with
   | some d,some c=>match gL d,ly d k c 0 with
     | true,some (some (_,v))=>some (match ok with
       | true=>.bM [v,.sc (.bool true)]
       | false=>v)
     | true,some none=>match gZ P e with
       | some z=>some (match ok with
         | true=>.bM [z,.sc (.bool false)]
         | false=>z)
       | none=>none
     | _,_=>none
   | _,_=>none
 | _=>none
theorem fe.two (h:VR g a x)(c:VR g b y):fe g [a,b] #[x,y]:=fe.cons (xs:=[y]) h (fe.cons (xs:=[]) c (fe.nil g))
theorem VR.two {g:Gh}{a b:AV}{x y:Value}(h:VR g a x)(c:VR g b y):VR g (.bM [a,b]) (.tuple #[x,y]):=.bM (fe.two h c).1 (fe.two h c).2
variable {m : AV}
theorem Xh (hi:Inv S g w){c:List (AV×AV)}(h:(match m with
     | .dm id=>match S.get id with
       | some (.mp c)=>some c
       | _=>none
     | .sc (.map none)=>some []
     | _=>none)=some c)(o:VR g m x):∃ es:Array MapEntry,((x=.map none∧es = #[])∨∃ r ck,x=.map (some r)∧w.heap[r]? = some (.map es ck))∧es.toList.length=c.length∧(∀(j:Nat) (f:AV×AV) (e:MapEntry),c[j]? = some f→es.toList[j]? = some e→VR g f.1 e.key∧VR g f.2 e.val):=by
 split at h<;>try (simp at h;done)
 · split at h<;>simp only[an,reduceCtorEq] at h
   rename_i p q
   subst h
   cases o with
   | dm s=>
     obtain⟨l', i,C,u⟩:=hi.ob _ _ q
     rw[s] at i;simp only[an] at i;subst i
     obtain⟨es,k,v,A,B,_⟩:=u
     exact⟨es,.inr ⟨_,k,rfl,v⟩,by simpa using A,fun j f e a b=>B j f e a (by simpa using b)⟩
 · simp only[an] at h;subst h
   cases o with | sc _=>exact⟨#[],.inl ⟨rfl,rfl⟩,by simp,by simp⟩
variable {ok : Bool}
theorem AA (hi:Inv S g w)(h:hJ P S t m k ok=some r)(G:VR g m x)(A:VR g k y) :
   ∃ z,(Instr.lookup t x y ok).run P w=.ok z w∧VR g r z:=by
 unfold hJ at h
 split at h<;>try (simp at h;done)
 rename_i kt L B
 split at h<;>try (simp at h;done)
 rename_i d J f u
 obtain⟨es,j,C,D⟩:=Xh hi u G
 split at h<;>try (simp at h;done)
 · rename_i i v c p
   simp only[an] at h
   obtain⟨q,s,o⟩:=pN A p C D
   cases q with
   | none=>exact o.elim
   | some E=>
     obtain⟨M,z⟩:=E
     obtain⟨N,a2,_⟩:=o
     refine⟨if ok then .tuple #[z,.bool true] else z,?_,?_⟩
     · rcases j with⟨rfl,rfl⟩ | ⟨H,ck,rfl,j⟩ <;>
        simp only[Instr.lookup,Sem.run_bind,ag B,Result.andThen_ok,getObj,Sem.run,Sem.run_pure, *, run_checkKey f c,run_findKey f s]
     · subst h;cases ok
       · exact a2
       · exact VR.two a2 (.sc rfl)
 · rename_i c p
   split at h<;>simp only[an,reduceCtorEq] at h
   rename_i z I
   obtain⟨F,K,e⟩:=iP (P:=P) (w:=w) (g:=g) I
   obtain⟨q,s,o⟩:=pN A p C D
   cases q with
   | some E=>exact o.elim
   | none=>
     refine⟨if ok then .tuple #[F,.bool false] else F,?_,?_⟩
     · rcases j with⟨rfl,rfl⟩ | ⟨H,ck,rfl,j⟩ <;>
        simp only[Instr.lookup,Sem.run_bind,ag B,Result.andThen_ok,getObj,Sem.run,Sem.run_pure, *, run_checkKey f c,run_findKey f s]
     · subst h;cases ok
       · exact e
       · exact VR.two e (.sc rfl)
def aqO : AV→Bool
 | .sc _=>true
 | _=>false
def kC (P:Program)(S:af)(t:TypeId)(m k v:AV):Option af:=
 match P.underlying t,m with
 | some (.map kt _),.dm id=>match P.underlying kt,S.get id with
   | some d,some (.mp c)=>match gL d&&Nat.ble S.lim id,ly d k c 0 with
     | true,some (some (i,_))=>some (S.set id (.mp (c.set i (k,v))))
     | true,some none=>some (S.set id (.mp (c++[(k,v)])))
     | _,_=>none
   | _,_=>none
 | _,_=>none
theorem Mc (h:Nl d a b=some true)(c:VR g a x)(e:VR g b y):Instr.sameBits 10000 y x=true:=by
 unfold Nl at h
 split at h<;>try (simp at h;done)
 · cases c with | sc _=>?_
   cases e with | sc _=>?_
   split at h<;>simp only[an,reduceCtorEq] at h
   rename_i f;subst f;simp at h;subst h;simp[Instr.sameBits]
 · cases c with | sc _=>?_
   cases e with | sc _=>?_
   rename_i xs ys _ _
   simp only[an] at h
   have:(ys==xs)=true:=by rw[beq_toListBytes,ByteArray.toList_eq,ByteArray.toList_eq];simp at h ⊢;exact h.symm
   simpa [Instr.sameBits] using this
 · cases c with | sc _=>?_
   cases e with | sc _=>?_
   simp at h;subst h;simp[Instr.sameBits]
variable {z : Value}
theorem tH (hi:Inv S g w){v:AV}(h:kC P S t m k v=some S')(hm:VR g m x)(C:VR g k y)(Y:VR g v z) :
   ∃ w', (Instr.mapUpdate t x y z).run P w=.ok () w' ∧ Inv S' g w' ∧ Ext S g w S' g w' := by
 unfold kC at h
 split at h<;>try (simp at h;done)
 rename_i kt et id Z
 split at h<;>try (simp at h;done)
 rename_i d I K N
 cases hm with
 | dm O=>
   rename_i l
   obtain⟨l', Q,q2,q3⟩:=hi.ob _ _ N
   rw[O] at Q;simp only[an] at Q;subst Q
   obtain⟨es,ck,R,H,L,T,U⟩:=q3
   have J:∀(j:Nat) (D:AV×AV) (e:MapEntry),I[j]? = some D→es.toList[j]? = some e→VR g D.1 e.key∧VR g D.2 e.val:=fun j D e a b=>L j D e a (by simpa using b)
   have X:=(Array.getElem?_eq_some_iff.1 R).1
   have A:∀(o:Obj) (k:Nat),k≠l.bO→(w.heap.setIfInBounds l.bO o)[k]? = w.heap[k]? := by
     intro o k C;rw[Array.getElem?_setIfInBounds,if_neg (Ne.symm C)]
   have B:∀ o:Obj,(w.heap.setIfInBounds l.bO o)[l.bO]? = some o:=by
     intro o;rw[Array.getElem?_setIfInBounds,if_pos rfl,if_pos X]
   split at h<;>try (simp at h;done)
   · rename_i i v0 f V
     simp only[Bool.and_eq_true] at f
     simp only[an] at h;subst h
     obtain⟨q,W,M⟩:=pN C V (by simpa using H) J
     cases q with
     | none=>exact M.elim
     | some qv=>
       obtain⟨j', y'⟩:=qv
       obtain⟨rfl,a2,a3,a4,D,e,a5,a6,a7⟩:=M
       simp only[Nat.sub_zero] at a5 a6
       have u:es[i]? = some e:=by simpa using a6
       have G:=Mc a7 C (L i D e a5 u).1
       refine⟨{ w with heap:=w.heap.setIfInBounds l.bO (.map (es.modify i fun e=>{ e with key:=y,val:=z }) ck) },?_,?_⟩
       · simp only[Instr.mapUpdate,Sem.run_bind,ag Z,Result.andThen_ok,getObj,Sem.run,R,run_checkKey K f.1,run_findKey K W,u,Option.map_some,Option.getD_some,Instr.keyThatStays,G,if_true,Sem.run_pure,setObj]
       · refine hi.jB N (ed f.2) O (by simp) (B _) (A _) rfl ⟨rfl,Nat.le_refl _⟩ rfl ⟨_,ck,rfl,by simp[H],?_,by simpa using T,fun j E c=>by
           rw[Array.getElem?_modify] at c
           by_cases s:i=j
           · subst s
             rw[if_pos rfl,u] at c
             simp only[Option.map_some,an] at c
             subst c;exact U i e u
           · rw[if_neg s] at c
             exact U j E c⟩
         intro j F E p c
         rw[Array.getElem?_modify] at c
         rw[List.getElem?_set] at p
         by_cases s:i=j
         · subst s
           rw[if_pos rfl,u] at c
           rw[if_pos rfl,if_pos (by omega)] at p
           simp only[Option.map_some,an] at p c
           subst p;subst c;exact⟨C,Y⟩
         · rw[if_neg s] at p c
           exact L j F E p c
   · rename_i f V
     simp only[Bool.and_eq_true] at f
     simp only[an] at h;subst h
     obtain⟨q,W,M⟩:=pN C V (by simpa using H) J
     cases q with
     | some qv=>exact M.elim
     | none=>
       refine⟨{ w with heap:=w.heap.setIfInBounds l.bO (.map (es.push { key:=y,val:=z,born:=ck }) (ck+1)) },?_,?_⟩
       · simp only[Instr.mapUpdate,Sem.run_bind,ag Z,Result.andThen_ok,getObj,Sem.run,R,run_checkKey K f.1,run_findKey K W,setObj]
       · refine hi.jB N (ed f.2) O (by simp) (B _) (A _) rfl ⟨rfl,Nat.le_refl _⟩ rfl ⟨_,ck+1,rfl,by simp[H],?_,by simp[T],fun j E c=>by
           rw[Array.getElem?_push] at c
           by_cases s:j=es.size
           · subst s
             rw[if_pos rfl] at c
             simp only[an] at c
             subst c;exact T
           · rw[if_neg s] at c
             exact U j E c⟩
         intro j F E p c
         rw[Array.getElem?_push] at c
         by_cases s:j=es.size
         · subst s
           rw[if_pos rfl] at c
           rw[H,List.getElem?_append_right (Nat.le_refl _)] at p
           simp at p c
           subst p;subst c;exact⟨C,Y⟩
         · rw[if_neg s] at c
           have:j<I.length:=by rw[←H];exact(Array.getElem?_eq_some_iff.1 c).1
           rw[List.getElem?_append_left this] at p
           exact L j F E p c
def tV (S:af):Option (AV×af):=
 match Nat.ble (S.nx+1) 8192&&Nat.ble S.lim S.nx with
 | true=>some (.dm S.nx,S.add (.mp []))
 | false=>none
theorem yw (hi:Inv S g w)(h:tV S=some (r,S')) :
  ∃ z w' g', (Instr.makeMap t none).run P w=.ok z w' ∧ VR g' r z∧Inv S' g' w' ∧ Ext S g w S' g' w' := by
 unfold tV at h
 split at h<;>simp only[an,gU,reduceCtorEq] at h
 rename_i c
 obtain⟨rfl,rfl⟩:=h
 simp only[Bool.and_eq_true] at c
 have c2:=ed c.1
 have c3:=ed c.2
 obtain⟨e,f⟩:=hi.alloc (w' := w.alloc (.map #[] 0)) (by omega) (o:=.mp []) (ob:=.map #[] 0) (l:=⟨w.heap.size,0,0,0⟩) rfl ⟨#[],0,rfl,rfl,by simp,rfl,by simp⟩ rfl rfl ⟨rfl,Nat.le_refl _⟩ rfl c3
 exact⟨.map (some w.heap.size),_,_,by simp[Instr.makeMap],VR.dm (l:=⟨w.heap.size,0,0,0⟩) (Gh.add_same _ _ _),e,f⟩
def tP (P:Program)(S:af)(t:TypeId)(x:AV):Option (AV×af):=
 match P.underlying t,x with
 | some .string,.sc (.string s)=>match Nat.ble (S.nx+1) 8192&&Nat.ble S.lim S.nx with
   | true=>some (.ptr S.nx 0 0,S.add (.si s 0))
   | false=>none
 | some (.map _ _),.sc (.map none)=>match Nat.ble (S.nx+1) 8192&&Nat.ble S.lim S.nx with
   | true=>some (.ptr S.nx 0 0,S.add .mz)
   | false=>none
 | some (.map _ _),.dm id=>match S.get id,Nat.ble (S.nx+1) 8192&&Nat.ble S.lim S.nx with
   | some (.mp c),true=>some (.ptr S.nx 0 0,S.add (.mi id c.length []))
   | _,_=>none
 | _,_=>none
theorem Bq (hi:Inv S g w){x:AV}(h:tP P S t x=some (r,S'))(q:VR g x y) :
   ∃ z w' g', (Instr.range t y).run P w=.ok z w' ∧ VR g' r z∧Inv S' g' w' ∧ Ext S g w S' g' w' := by
 unfold tP at h
 split at h<;>try (simp at h;done)
 · rename_i s e
   split at h<;>simp only[an,gU,reduceCtorEq] at h
   rename_i c
   obtain⟨rfl,rfl⟩:=h
   simp only[Bool.and_eq_true] at c
   have c2:=ed c.1
   have c3:=ed c.2
   cases q with | sc _=>?_
   obtain⟨f,p⟩:=hi.alloc (w' := w.alloc (.stringIter s 0)) (by omega) (o:=.si s 0) (ob:=.stringIter s 0) (l:=⟨w.heap.size,0,0,0⟩) rfl ⟨rfl,rfl⟩ rfl rfl ⟨rfl,Nat.le_refl _⟩ rfl c3
   exact⟨.pointer (some ⟨w.heap.size,0,none⟩),_,_,by simp[Instr.range,ag e],by simpa using VR.ptr (i:=0) (j:=0) (l:=⟨w.heap.size,0,0,0⟩) (Gh.add_same g S.nx _),f,p⟩
 · rename_i e
   split at h<;>simp only[an,gU,reduceCtorEq] at h
   rename_i c
   obtain⟨rfl,rfl⟩:=h
   simp only[Bool.and_eq_true] at c
   have c2:=ed c.1
   have c3:=ed c.2
   cases q with | sc _=>?_
   obtain⟨f,p⟩:=hi.alloc (w' := w.alloc (.mapIter none 0 #[] 0)) (by omega) (o:=.mz) (ob:=.mapIter none 0 #[] 0) (l:=⟨w.heap.size,0,0,0⟩) rfl ⟨0,#[],0,rfl,rfl⟩ rfl rfl ⟨rfl,Nat.le_refl _⟩ rfl c3
   exact⟨.pointer (some ⟨w.heap.size,0,none⟩),_,_,by simp[Instr.range,ag e],by simpa using VR.ptr (i:=0) (j:=0) (l:=⟨w.heap.size,0,0,0⟩) (Gh.add_same g S.nx _),f,p⟩
 · rename_i id e
   split at h<;>simp only[an,gU,reduceCtorEq] at h
   rename_i v B c
   obtain⟨rfl,rfl⟩:=h
   simp only[Bool.and_eq_true] at c
   have c2:=ed c.1
   have c3:=ed c.2
   cases q with | dm A=>?_
   rename_i lm
   obtain⟨l', u,a2,a3⟩:=hi.ob _ _ B
   rw[A] at u;simp only[an] at u;subst u
   obtain⟨es,ck,C,D,F,E,G⟩:=a3
   obtain⟨f,p⟩:=hi.alloc (w' := w.alloc (.mapIter (some lm.bO) ck #[] ck)) (by omega) (o:=.mi id v.length []) (ob:=.mapIter (some lm.bO) ck #[] ck) (l:=⟨w.heap.size,0,0,0⟩) rfl ⟨lm,A,by rw[E,D],rfl⟩ rfl rfl ⟨rfl,Nat.le_refl _⟩ rfl c3
   exact⟨.pointer (some ⟨w.heap.size,0,none⟩),_,_,by simp[Instr.range,ag e,getObj,Sem.run,C],by simpa using VR.ptr (i:=0) (j:=0) (l:=⟨w.heap.size,0,0,0⟩) (Gh.add_same g S.nx _),f,p⟩
def uL (S:af)(it:AV)(isString:Bool):Option (AV×af):=
 match it,isString with
 | .ptr id 0 0,true=>match S.get id with
   | some (.si s p)=>match Nat.ble (p+1) s.size,Nat.ble S.lim id with
     | true,true=>some (.bM [.sc (.bool true),.sc (.int .i64 p),.sc (.int .i32 (Utf8.decode s p).1)],S.set id (.si s (p+(Utf8.decode s p).2)))
     | false,_=>some (.bM [.sc (.bool false)],S)
     | _,_=>none
   | _=>none
 | _,_=>none
theorem fe.three {c:AV}(h:VR g a x)(f:VR g b y)(e:VR g c z):fe g [a,b,c] #[x,y,z]:=fe.cons (xs:=[y,z]) h (fe.two f e)
variable {it : AV}
theorem Dp (hi:Inv S g w){b:Bool}(h:uL S it b=some (r,S'))(q:VR g it x) :
   ∃ z w', (Instr.next x b t).run P w=.ok z w' ∧ VR g r z∧Inv S' g w' ∧ Ext S g w S' g w' := by
 unfold uL at h
 split at h<;>try (simp at h;done)
 rename_i id
 split at h<;>try (simp at h;done)
 rename_i s p j
 cases q with
 | ptr o=>
   rename_i l
   obtain⟨l', f,B,c⟩:=hi.ob _ _ j
   rw[o] at f;simp only[an] at f;subst f
   obtain⟨c,e⟩:w.heap[l.bO]? = some (.stringIter s p)∧l.base=0:=c
   have i:=(Array.getElem?_eq_some_iff.1 c).1
   have u:l.base+0*l.sz+0=0:=by rw[e];simp
   rw[u]
   split at h<;>simp only[an,gU,reduceCtorEq] at h
   · rename_i h1 h2
     have h1:=ed h1
     have h2:=ed h2
     obtain⟨rfl,rfl⟩:=h
     have h3:fe g [.sc (.bool true),.sc (.int .i64 p),.sc (.int .i32 (Utf8.decode s p).1)] #[.bool true,.int .i64 p,.int .i32 (Utf8.decode s p).1]:=fe.three (.sc rfl) (.sc rfl) (.sc rfl)
     refine⟨_,{ w with heap:=w.heap.setIfInBounds l.bO (.stringIter s (p+(Utf8.decode s p).2)) },?_,.bM h3.1 h3.2,?_⟩
     · simp only[Instr.next,Sem.run_bind,Result.andThen_ok,getObj,Sem.run,c]
       rw[if_pos (by omega)]
       simp[setObj,Sem.run,c,goInt]
     · refine hi.jB j h2 o (by simp) ?_ ?_ rfl ⟨rfl,Nat.le_refl _⟩ rfl ⟨rfl,e⟩
       · show(w.heap.setIfInBounds l.bO _)[l.bO]? = _
         rw[Array.getElem?_setIfInBounds,if_pos rfl,if_pos i]
       · intro k v
         show(w.heap.setIfInBounds l.bO _)[k]? = _
         rw[Array.getElem?_setIfInBounds,if_neg (Ne.symm v)]
   · rename_i h1
     have h1:¬ p<s.size:=by intro A;rw[sr A] at h1;simp at h1
     obtain⟨rfl,rfl⟩:=h
     refine⟨.tuple #[.bool false],w,?_,.bM (fe.cons (xs:=[]) (g:=g) (a:=.sc (.bool false)) (.sc rfl) (fe.nil g)).1 (fe.cons (xs:=[]) (g:=g) (a:=.sc (.bool false)) (.sc rfl) (fe.nil g)).2,hi,Ext.refl _ _ _⟩
     simp only[Instr.next,Sem.run_bind,Result.andThen_ok,getObj,Sem.run,c]
     rw[if_neg h1]
     simp
def X8 (i:Nat):List Nat→Bool
 | []=>false
 | j::r=>match Nat.beq i j with
   | true=>true
   | false=>X8 i r
def qn (seen:List Nat):List (AV×AV)→Nat→List (Nat×AV×AV)
 | [],_=>[]
 | (k,v)::r,i=>match X8 i seen with
   | true=>qn seen r (i+1)
   | false=>(i,k,v)::qn seen r (i+1)
def H5 (S:af)(id m since:Nat)(seen:List Nat):List (Nat×AV×AV)→List (AV×af)
 | []=>[]
 | (i,k,v)::r=>(.bM [.sc (.bool true),k,v],S.set id (.mi m since (seen++[i])))::H5 S id m since seen r
def PV (S:af)(id m since:Nat)(seen:List Nat):List (Nat×AV×AV)→List (AV×af)
 | []=>[(.bM [.sc (.bool false)],S)]
 | l=>H5 S id m since seen l
def Lo (S:af)(it:AV):Option (List (AV×af)):=
 match it with
 | .ptr id 0 0=>match S.get id with
   | some .mz=>some [(.bM [.sc (.bool false)],S)]
   | some (.mi m since seen)=>match S.get m with
     | some (.mp c)=>match Nat.beq since c.length,Nat.ble S.lim id with
       | true,true=>some (PV S id m since seen (qn seen c 0))
       | _,_=>none
     | _=>none
   | _=>none
 | _=>none
theorem Im {i:Nat}:∀ {l:List Nat},X8 i l=true↔i∈l:=by
 intro l
 induction l with
 | nil=>simp[X8]
 | cons j r e=>
   simp only[X8,List.mem_cons]
   cases c:Nat.beq i j with
   | true=>simp[jj c]
   | false=>
     have:i≠j:=by rintro rfl;rw[Nat.beq_refl] at c;simp at c
     simp[this,e]
variable {seen : List Nat}
theorem Af : ∀ {c:List (AV×AV)} {n i:Nat} {k v:AV},(i,k,v)∈qn seen c n↔n≤i∧c[i-n]? = some (k,v)∧i∉seen:=by
 intro c
 induction c with
 | nil=>intro n i k v;simp[qn]
 | cons u r o=>
   obtain⟨a,b⟩:=u
   intro n i k v
   have f:((n+1≤i∧r[i-(n+1)]? = some (k,v)∧i∉seen)∨(i=n∧a=k∧b=v∧n∉seen))↔(n≤i∧((a,b)::r)[i-n]? = some (k,v)∧i∉seen):=by
     constructor
     · rintro(⟨p,q,s⟩ | ⟨rfl,rfl,rfl,s⟩)
       · refine⟨by omega,?_,s⟩
         rw[show i-n=(i-(n+1))+1 from by omega,List.getElem?_cons_succ];exact q
       · exact⟨Nat.le_refl _,by simp,s⟩
     · rintro⟨p,q,s⟩
       by_cases e:i=n
       · subst e;simp at q;exact .inr ⟨rfl,q.1,q.2,s⟩
       · rw[show i-n=(i-(n+1))+1 from by omega,List.getElem?_cons_succ] at q
         exact .inl ⟨by omega,q,s⟩
   rw[←f]
   simp only[qn]
   cases h:X8 n seen with
   | true=>
     have j:=Im.1 h
     simp only[o]
     constructor
     · exact .inl
     · rintro(q | ⟨_,_,_,s⟩)
       · exact q
       · exact absurd j s
   | false=>
     have j:n∉seen:=fun e=>by rw[Im.2 e] at h;simp at h
     simp only[List.mem_cons,gU,o]
     constructor
     · rintro(⟨rfl,rfl,rfl⟩ | q)
       · exact .inr ⟨rfl,rfl,rfl,j⟩
       · exact .inl q
     · rintro(q | ⟨rfl,rfl,rfl,_⟩)
       · exact .inr q
       · exact .inl ⟨rfl,rfl,rfl⟩
theorem Md {id m since:Nat}:∀ {l:List (Nat×AV×AV)} {i:Nat} {k v:AV},(i,k,v)∈l→(AV.bM [.sc (.bool true),k,v],S.set id (.mi m since (seen++[i])))∈H5 S id m since seen l:=by
 intro l
 induction l with
 | nil=>intro i k v h;simp at h
 | cons p r c=>
   obtain⟨j,a,b⟩:=p
   intro i k v h
   rcases List.mem_cons.1 h with e | h
   · simp only[gU] at e
     obtain⟨rfl,rfl,rfl⟩:=e
     exact List.mem_cons_self ..
   · exact tf _ (c h)
theorem AB (w:World)(e:0<n):∃ c w', (choose (.mapNext n)).run P w=.ok c w' ∧ c<n∧w'.heap=w.heap∧w'.os=w.os∧D0 w' w∧w'.output=w.output:=by
 by_cases h:n≤1
 · exact⟨0,w,by simp[choose,Sem.run,Question.forced,h],e,rfl,rfl,⟨rfl,Nat.le_refl _⟩,rfl⟩
 · exact⟨w.tape w.drawn (.mapNext n)%n,{ w with drawn:=w.drawn+1 },by simp[choose,Sem.run,Question.forced,h,Question.cut],Nat.mod_lt _ e,rfl,rfl,⟨rfl,Nat.le_succ _⟩,rfl⟩
theorem Fl (hi : Inv S g w) {l : List (AV × af)} (h : Lo S it = some l) (hv : VR g it x) :
   ∃ r S' z w', (r, S') ∈ l ∧ (Instr.next x false t).run P w = .ok z w' ∧ VR g r z ∧ Inv S' g w' ∧ Ext S g w S' g w' := by
 have D : fe g [.sc (.bool false)] #[.bool false] := fe.cons (xs := []) (.sc rfl) (fe.nil g)
 unfold Lo at h
 split at h <;> try (simp at h; done)
 rename_i id
 cases hv with | ptr hl => ?_
 rename_i lo
 split at h <;> try (simp at h; done)
 · rename_i hg
   simp only [an] at h; subst h
   obtain ⟨l', H, q2, M⟩ := hi.ob _ _ hg
   rw [hl] at H; simp only [an] at H; subst H
   obtain ⟨a, b, c, M, E⟩ := M
   refine ⟨_, _, .tuple #[.bool false], w, List.mem_cons_self .., ?_, .bM D.1 D.2, hi, Ext.refl _ _ _⟩
   rw [show lo.base + 0 * lo.sz + 0 = 0 from by rw [E]; simp]
   simp [Instr.next, getObj, Sem.run, M]
 · rename_i m since seen hg
   split at h <;> try (simp at h; done)
   rename_i f hgm
   split at h <;> simp only [an, reduceCtorEq] at h
   rename_i hs u
   have hs := jj hs
   have u := ed u
   subst h
   obtain ⟨l', H, q2, M⟩ := hi.ob _ _ hg
   rw [hl] at H; simp only [an] at H; subst H
   obtain ⟨lm, m1, m2, E⟩ := M
   obtain ⟨l', n1, n2, n3⟩ := hi.ob _ _ hgm
   rw [m1] at n1; simp only [an] at n1; subst n1
   obtain ⟨es, ck, p1, p2, p3, p4, L⟩ := n3
   have hlt := (Array.getElem?_eq_some_iff.1 m2).1
   rw [show lo.base + 0 * lo.sz + 0 = 0 from by rw [E]; simp]
   have K : (!seen.toArray.isEmpty && !es.isEmpty && es.all fun e => decide (e.born ≥ since)) = false := by
     rw [Bool.eq_false_iff]
     intro C
     simp only [Bool.and_eq_true, Bool.not_eq_true'] at C
     obtain ⟨⟨_, c2⟩, c3⟩ := C
     have F : 0 < es.size := by
       rcases Nat.eq_zero_or_pos es.size with e | e
       · simp [Array.isEmpty, e] at c2
       · exact e
     have := (Array.all_eq_true.1 c3) 0 F
     simp only [ge_iff_le, decide_eq_true_eq] at this
     have hb := L 0 es[0] (AT F)
     omega
   obtain ⟨left, q⟩ : ∃ x, x = es.filter fun e => !seen.toArray.contains e.born := ⟨_, rfl⟩
   have I : ∀ e, e ∈ left → ∃ i, es[i]? = some e ∧ i ∉ seen := by
     intro e p
     rw [q, Array.mem_filter] at p
     obtain ⟨i, hi', he'⟩ := Array.mem_iff_getElem.1 p.1
     have B : es[i]? = some e := by rw [AT hi', he']
     refine ⟨i, B, fun C => ?_⟩
     have := p.2
     rw [L i e B] at this
     simp [C] at this
   have R : ∀ i e, es[i]? = some e → i ∉ seen → e ∈ left := by
     intro i e p hn
     rw [q, Array.mem_filter]
     refine ⟨Array.mem_of_getElem? p, ?_⟩
     rw [L i e p]
     simp [hn]
   have T : left.filter (fun e => decide (e.born < since)) = left := by
     rw [Array.filter_eq_self]
     intro e p
     obtain ⟨i, h1, _⟩ := I e p
     have := (Array.getElem?_eq_some_iff.1 h1).1
     rw [L i e h1]
     simp only [decide_eq_true_eq]; omega
   have U : left.filter (fun e => decide (e.born ≥ since)) = #[] := by
     rw [Array.filter_eq_empty_iff]
     intro e p
     obtain ⟨i, h1, _⟩ := I e p
     have := (Array.getElem?_eq_some_iff.1 h1).1
     rw [L i e h1]
     simp only [decide_eq_true_eq]; omega
   obtain ⟨j, o⟩ : ∃ x, x = (if left.isEmpty then #[none] else #[]) ++ (left ++ #[]).map some := ⟨_, rfl⟩
   have hsz : 0 < j.size := by
     rw [o]
     cases p : left.isEmpty with
     | true => simp; omega
     | false =>
       have : left.size ≠ 0 := by intro e; simp [Array.isEmpty, e] at p
       simp; omega
   obtain ⟨c, w1, r1, r2, r3, r4, r5, r6⟩ := AB (P := P) w hsz
   have V : (Instr.next (.pointer (some ⟨lo.bO, 0, none⟩)) false t).run P w = (match j[c]? with
       | some (some e) => (do setObj lo.bO (.mapIter (some lm.bO) since (seen.toArray.push e.born) ck); pure (.tuple #[.bool true, e.key, e.val]) : Sem Value)
       | some none => pure (.tuple #[.bool false])
       | none => stuck "Next: no such candidate").run P w1 := by
     simp only [Instr.next, Sem.run_bind, getObj, Sem.run, m2, Result.andThen_ok, p1, K, Bool.false_eq_true, if_false, ← q, T, U, ← o, r1]
     rfl
   rw [V]
   have N : Inv S g w1 := hi.world r3
   have O : Ext S g w S g w1 := Ext.world r3 r4 r5 r6
   have G : j[c]? = some j[c] := AT r2
   cases C : j[c] with
   | none =>
     rw [G, C]
     have W : left.isEmpty = true := by
       cases p : left.isEmpty with
       | true => rfl
       | false =>
         exfalso
         rw [p] at o
         have s : (none : Option MapEntry) ∈ j := by rw [← C]; exact Array.getElem_mem _
         rw [o] at s
         simp at s
     have hlk : qn seen f 0 = [] := by
       rw [List.eq_nil_iff_forall_not_mem]
       rintro ⟨i, k, v⟩ s
       obtain ⟨_, a, b⟩ := Af.1 s
       simp only [Nat.sub_zero] at a
       have X : i < es.size := by rw [p2]; exact (List.getElem?_eq_some_iff.1 a).1
       have := R i es[i] (AT X) b
       have J : left = #[] := by simpa using W
       rw [J] at this
       simp at this
     refine ⟨.bM [.sc (.bool false)], S, .tuple #[.bool false], w1, ?_, by simp, .bM D.1 D.2, N, O⟩
     rw [hlk]; exact List.mem_cons_self ..
   | some e =>
     rw [G, C]
     have s : e ∈ left := by
       have s : some e ∈ j := by rw [← C]; exact Array.getElem_mem _
       rw [o] at s
       cases p : left.isEmpty with
       | true =>
         rw [p] at s
         have J : left = #[] := by simpa using p
         rw [J] at s
         simp at s
       | false => rw [p] at s; simpa using s
     obtain ⟨i, h1, h2⟩ := I e s
     have Y : i < f.length := by rw [← p2]; exact (Array.getElem?_eq_some_iff.1 h1).1
     have Q : f[i]? = some f[i] := nA Y
     obtain ⟨v1, v2⟩ := p3 i _ e Q h1
     have A : (i, f[i].1, f[i].2) ∈ qn seen f 0 := Af.2 ⟨Nat.zero_le _, by rw [Nat.sub_zero]; exact Q, h2⟩
     have Z : lo.bO < w1.heap.size := by rw [r3]; exact hlt
     have h3 : fe g [.sc (.bool true), f[i].1, f[i].2] #[.bool true, e.key, e.val] := fe.three (.sc rfl) v1 v2
     have hb := L i e h1
     obtain ⟨u1, u2⟩ := N.jB (w' := { w1 with heap := w1.heap.setIfInBounds lo.bO (.mapIter (some lm.bO) since (seen.toArray.push e.born) ck) }) (ob' := .mapIter (some lm.bO) since (seen.toArray.push e.born) ck) (o' := .mi m since (seen ++ [i])) hg u hl (by simp)
       (by show (w1.heap.setIfInBounds lo.bO _)[lo.bO]? = _; rw [Array.getElem?_setIfInBounds, if_pos rfl, if_pos Z])
       (by intro k hk; show (w1.heap.setIfInBounds lo.bO _)[k]? = _; rw [Array.getElem?_setIfInBounds, if_neg (Ne.symm hk)]) rfl ⟨rfl, Nat.le_refl _⟩ rfl
       ⟨lm, m1, by rw [hb, p4, p2, ← hs]; simp, E⟩
     refine ⟨_, _, .tuple #[.bool true, e.key, e.val], _, ?_, ?_, .bM h3.1 h3.2, u1, O.trans u2⟩
     · have : PV S id m since seen (qn seen f 0) = H5 S id m since seen (qn seen f 0) := by
         cases hq : qn seen f 0 with
         | nil => rw [hq] at A; simp at A
         | cons a b => rfl
       rw [this]
       exact Md A
     · simp [setObj, Sem.run, show w1.heap[lo.bO]? = some (Obj.mapIter (some lm.bO) since seen.toArray since) from by rw [r3]; exact m2]
def Eg : List Nat→Option Nat
 | []=>none
 | [i]=>some i
 | _::r=>Eg r
def zd (S:af)(it:AV):Option AV:=
 match it with
 | .ptr id 0 0=>match S.get id with
   | some (.mi m since seen)=>match S.get m,Eg seen with
     | some (.mp c),some i=>match Nat.beq since c.length,nth c i with
       | true,some (k,v)=>some (.bM [k,v])
       | _,_=>none
     | _,_=>none
   | _=>none
 | _=>none
theorem G0 : ∀ {l:List Nat} {i:Nat},Eg l=some i→l.toArray.back? = some i:=by
 intro l
 induction l with
 | nil=>intro i h;simp[Eg] at h
 | cons a r c=>
   intro i h
   cases r with
   | nil=>simp only[Eg,an] at h;subst h;rfl
   | cons b r=>
     have:=c (i:=i) h
     simp only[List.back?_toArray] at this ⊢
     rw[List.getLast?_cons_cons];exact this
theorem Br (hi:Inv S g w)(h:zd S it=some r)(H:VR g it x):∃ z,(Instr.entry x).run P w=.ok z w∧VR g r z:=by
 unfold zd at h
 split at h<;>try (simp at h;done)
 rename_i id
 cases H with | ptr I=>?_
 rename_i lo
 split at h<;>try (simp at h;done)
 rename_i m since seen J
 split at h<;>try (simp at h;done)
 rename_i V i D c
 split at h<;>simp only[an,reduceCtorEq] at h
 rename_i k v s u
 have s:=jj s
 rw[gY] at u
 subst h
 obtain⟨l', A,X,K⟩:=hi.ob _ _ J
 rw[I] at A;simp only[an] at A;subst A
 obtain⟨lm,L,M,E⟩:=K
 obtain⟨l', B,Y,N⟩:=hi.ob _ _ D
 rw[L] at B;simp only[an] at B;subst B
 obtain⟨es,ck,O,F,Q,R,G⟩:=N
 have q:i<es.size:=by rw[F];exact(List.getElem?_eq_some_iff.1 u).1
 have o:=AT q
 obtain⟨v1,T⟩:=Q i _ _ u o
 have f:es.find? (fun e=>e.born==i)=some es[i]:=by
  cases C:es.find? (fun e=>e.born==i) with
  | none=>
    have:=Array.find?_eq_none.1 C es[i] (Array.getElem_mem _)
    rw[G i _ o] at this;simp at this
  | some e=>
    have h1:=Array.find?_some C
    have h2:=Array.mem_of_find?_eq_some C
    obtain⟨j,U,p⟩:=Array.mem_iff_getElem.1 h2
    have:=G j e (by rw[AT U,p])
    have W:e.born=i:=by simpa using h1
    have:j=i:=by omega
    subst this
    rw[p]
 have h2:=fe.two v1 T
 refine⟨.tuple #[es[i].key,es[i].val],?_,.bM h2.1 h2.2⟩
 rw[show lo.base+0*lo.sz+0=0 from by rw[E];simp]
 simp only[Instr.entry,Sem.run_bind,getObj,Sem.run,M,Result.andThen_ok,G0 c,O,f]
 rw[if_neg (by rw[R,F,s];simp)]
 simp
def vR (P:Program)(t:TypeId)(x:AV)(ok:Bool):Option AV:=
 match P.underlying t with
 | some (.interface _)=>none
 | some _=>match x,ok with
   | .eS u v,true=>if u=t then some (.bM [v,.sc (.bool true)]) else
     match gZ P t with
     | some z=>some (.bM [z,.sc (.bool false)])
     | none=>none
   | .eS u v,false=>if u=t then some v else none
   | .sc .nilIface,true=>match gZ P t with
     | some z=>some (.bM [z,.sc (.bool false)])
     | none=>none
   | _,_=>none
 | none=>none
theorem AD {xt : TypeId} {x : AV} (h : vR P t x ok = some r) (c : VR g x y) : ∃ z, (Instr.typeAssert y xt t ok).run P w = .ok z w ∧ VR g r z := by
 unfold vR at h
 split at h <;> try (simp at h; done)
 rename_i d q s
 have key : ∀ u v, (Instr.typeAssert (.iface u v) xt t ok).run P w = (if u = t then (pure (if ok then .tuple #[v, .bool true] else v) : Sem Value) else
     (if ok then do pure (.tuple #[← zeroValue t, .bool false]) else runtimePanic (.typeAssertion (some xt) (some u) t ""))).run P w := by
   intro u v
   cases d <;> first | exact (q _ rfl).elim | simp [Instr.typeAssert, ag s]
 have j : ok = true → (Instr.typeAssert .nilIface xt t ok).run P w = (do pure (.tuple #[← zeroValue t, .bool false]) : Sem Value).run P w := by
   intro p; subst p
   cases d <;> first | exact (q _ rfl).elim | simp [Instr.typeAssert, ag s]
 split at h <;> try (simp at h; done)
 · rename_i u v
   cases c with
   | eS c =>
     split at h
     · rename_i i
       simp only [an] at h; subst h; subst i
       exact ⟨_, by rw [key]; simp, VR.two c (.sc rfl)⟩
     · rename_i i
       split at h <;> simp only [an, reduceCtorEq] at h
       rename_i z o
       subst h
       obtain ⟨A, e, f⟩ := iP (P := P) (w := w) (g := g) o
       exact ⟨_, by rw [key]; simp [i, e], VR.two f (.sc rfl)⟩
 · rename_i u v
   cases c with
   | eS c =>
     split at h <;> simp only [an, reduceCtorEq] at h
     rename_i i
     subst h; subst i
     exact ⟨_, by rw [key]; simp, c⟩
 · split at h <;> simp only [an, reduceCtorEq] at h
   rename_i z o
   subst h
   obtain ⟨A, e, f⟩ := iP (P := P) (w := w) (g := g) o
   cases c with | sc _ => exact ⟨_, by rw [j rfl]; simp [e], VR.two f (.sc rfl)⟩
end
end Go.Eng

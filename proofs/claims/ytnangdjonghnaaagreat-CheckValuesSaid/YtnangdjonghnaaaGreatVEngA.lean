/- Abstract values and stores, their meaning, and the operations on them; no conditions. -/
import Derived.Recover
import Derived.Laws.Sem
import Derived.Laws.World
import Derived.Laws.StructEq
import Derived.Laws.BitsLemmas
namespace Go.Eng
noncomputable section
abbrev Bx := @Array.getElem?_eq_getElem
abbrev oe := @List.getElem?_eq_getElem
abbrev u9 := @Nat.mul_le_mul_right
abbrev tl := @List.mem_of_getElem?
abbrev nM := @Nat.lt_succ_self
abbrev ug := @List.mem_cons_of_mem
abbrev tn := @Nat.ble_eq_true_of_le
abbrev iy := @Prod.mk.injEq
abbrev jK := @Nat.eq_of_beq_eq_true
abbrev eL := @Nat.le_of_ble_eq_true
abbrev ar := @Option.some.injEq
def EX : Value→Bool
 | .bool _ | .int _ _ | .string _ | .pointer none | .map none | .nilFunc | .nilIface=>true
 | _=>false
inductive AV where
 | sc (v : Value)
 | agg (cs : List AV)
 | eG
 | an
 | lit (es : List AV)
 | eV (cs : List AV)
 | ptr (id i j : Nat)
 | aj (id off len : Nat)
 | dJ (id : Nat)
 | fn (f : Fn) (first cap : List AV)
 | fq (t : TypeId) (v : AV)
 | bm (vs : List AV)
 | pq (id : Nat)
 | clip (v : AV)
 | top
 deriving Inhabited
def AV.cells : AV→List AV
 | .agg cs=>cs
 | v=>[v]
structure Loc where
 cd : Nat
 base : Nat
 sz : Nat
 bz : Nat
structure Gh where
 ro : Nat → Option (Array Value)
 ph : Nat → Option Loc
structure Gh.le (a b : Gh) : Prop where
 ro : ∀ k c, a.ro k = some c → b.ro k = some c
 ph : ∀ k l, a.ph k = some l → b.ph k = some l
theorem Gh.le_refl (a:Gh):Gh.le a a:=⟨fun _ _ h=>h,fun _ _ h=>h⟩
theorem Gh.le_trans {a b c:Gh}(h:Gh.le a b)(k:Gh.le b c):Gh.le a c:=⟨fun i x e=>k.ro i x (h.ro i x e),fun i x e=>k.ph i x (h.ph i x e)⟩
inductive VR (g : Gh) : AV → Value → Prop
 | sc {v : Value} (h : EX v = true) : VR g (.sc v) v
 | agg {cs : List AV} {xs : Array Value} (hl : cs.length = xs.size) (h : ∀ (k : Nat) (a : AV) (x : Value), cs[k]? = some a → xs[k]? = some x → VR g a x) : VR g (.agg cs) (.agg xs)
 | eG {a : Option Addr} : VR g .eG (.slice a 0 0)
 | an : VR g .an (.slice none 0 0)
 | lit {es : List AV} {b o sz cap : Nat} {c : Array Value} (hr : g.ro b = some c) (hs : ∀ e, e ∈ es → e.cells.length = sz) (hb : o + es.length * sz ≤ c.size) (hcap : es.length ≤ cap)
  (h : ∀ (i j : Nat) (e a : AV) (x : Value), es[i]? = some e → e.cells[j]? = some a → c[o + i * sz + j]? = some x → VR g a x) :
  VR g (.lit es) (.slice (some ⟨b, o, none⟩) es.length cap)
 | gG {a : Option Addr} {cap : Nat} : VR g (.lit []) (.slice a 0 cap)
 | eV {cs : List AV} {b o : Nat} {c : Array Value} (hr : g.ro b = some c) (hb : o + cs.length ≤ c.size)
  (h : ∀ (j : Nat) (a : AV) (x : Value), cs[j]? = some a → c[o + j]? = some x → VR g a x) : VR g (.eV cs) (.pointer (some ⟨b, o, none⟩))
 | ptr {id i j : Nat} {l : Loc} (hl : g.ph id = some l) : VR g (.ptr id i j) (.pointer (some ⟨l.cd, l.base + i * l.sz + j, none⟩))
 | aj {id off len cap : Nat} {l : Loc} (hl : g.ph id = some l) (hc : len ≤ cap) (hb : l.base + (off + cap) * l.sz = l.bz) :
  VR g (.aj id off len) (.slice (some ⟨l.cd, l.base + off * l.sz, none⟩) len cap)
 | ga {id off : Nat} {a : Addr} {l : Loc} (hl : g.ph id = some l) (hb : l.base + off * l.sz = l.bz) : VR g (.aj id off 0) (.slice (some a) 0 0)
 | dJ {id : Nat} {l : Loc} (hl : g.ph id = some l) : VR g (.dJ id) (.map (some l.cd))
 | fn {f : Fn} {first cap : List AV} {xs ys : Array Value} (hx : first.length = xs.size) (hy : cap.length = ys.size)
  (h : ∀ (k : Nat) (a : AV) (x : Value), first[k]? = some a → xs[k]? = some x → VR g a x)
  (h' : ∀ (k : Nat) (a : AV) (x : Value), cap[k]? = some a → ys[k]? = some x → VR g a x) : VR g (.fn f first cap) (.func f xs ys)
 | fq {t : TypeId} {v : AV} {x : Value} (h : VR g v x) : VR g (.fq t v) (.iface t x)
 | bm {vs : List AV} {xs : Array Value} (hl : vs.length = xs.size) (h : ∀ (k : Nat) (a : AV) (x : Value), vs[k]? = some a → xs[k]? = some x → VR g a x) : VR g (.bm vs) (.tuple xs)
 | pq {id : Nat} {l : Loc} (hl : g.ph id = some l) : VR g (.pq id) (.func (.yield l.cd) #[] #[])
 | clip {v : AV} {a : Option Addr} {n c : Nat} (h : VR g v (.slice a n c)) : VR g (.clip v) (.slice a n n)
 | top {x : Value} : VR g .top x
variable {g : Gh} {x : Value}
theorem VR.mono {g' : Gh}(e:Gh.le g g'){v:AV}(h:VR g v x):VR g' v x:=by
 induction h with
 | sc h=>exact .sc h
 | agg c _ d=>exact .agg c d
 | eG=>exact .eG
 | an=>exact .an
 | lit n q f m _ d=>exact .lit (e.ro _ _ n) q f m d
 | gG=>exact .gG
 | eV n f _ d=>exact .eV (e.ro _ _ n) f d
 | ptr c=>exact .ptr (e.ph _ _ c)
 | aj c r f=>exact .aj (e.ph _ _ c) r f
 | ga c f=>exact .ga (e.ph _ _ c) f
 | dJ c=>exact .dJ (e.ph _ _ c)
 | fn hx t _ _ d p=>exact .fn hx t d p
 | fq _ d=>exact .fq d
 | bm c _ d=>exact .bm c d
 | pq c=>exact .pq (e.ph _ _ c)
 | clip _ d=>exact .clip d
 | top=>exact .top
def AV.pX : AV→AV
 | .clip v=>v
 | v=>v
theorem VR.pX {g:Gh}{v:AV}{x:Value}(h:VR g v x):VR g v.pX x∨∃ a n c,x=.slice a n n∧VR g v.pX (.slice a n c):=by
 cases h with
 | clip h=>exact .inr ⟨_,_,_,rfl,h⟩
 | _=>left;first | (constructor<;>assumption) | (rename_i h;exact h)
def fG (g:Gh)(l:List AV)(xs:Array Value):Prop:=l.length=xs.size∧∀(k:Nat) (a:AV) (x:Value),l[k]? = some a→xs[k]? = some x→VR g a x
theorem fG.mono {g g' : Gh}(c:Gh.le g g'){l:List AV}{xs:Array Value}(h:fG g l xs):fG g' l xs:=⟨h.1,fun k a x e d=>(h.2 k a x e d).mono c⟩
variable {xs : Array Value} {k : Nat} {a : AV}
theorem fG.get {l:List AV}(h:fG g l xs)(e:l[k]? = some a):∃ x,xs[k]? = some x∧VR g a x:=by
 have d:k<l.length:=(List.getElem?_eq_some_iff.1 e).1
 have c:k<xs.size:=h.1▸d
 have hx:xs[k]? = some xs[k]:=Bx c
 exact⟨_,hx,h.2 k a _ e hx⟩
theorem fG.nil (g:Gh):fG g [] #[]:=⟨rfl,fun k a x e=>by simp at e⟩
theorem fG.acn {l:List AV}{ys:List Value}(c:l.length=ys.length)(h:∀(k:Nat) (a:AV) (x:Value),l[k]? = some a→ys[k]? = some x→VR g a x):fG g l ys.toArray:=
 ⟨by simpa using c,fun k a x e d=>h k a x e (by simpa using d)⟩
theorem fG.cons {l:List AV}{xs:List Value}(h:VR g a x)(t:fG g l xs.toArray):fG g (a::l) (x::xs).toArray:=by
 refine⟨by simpa using t.1,fun k b y e c=>?_⟩
 cases k with
 | zero=>simp at e c;subst e;subst c;exact h
 | succ k=>exact t.2 k b y (by simpa using e) (by simpa using c)
theorem fG.append {l m:List AV}{ys:Array Value}(h:fG g l xs)(d:fG g m ys):fG g (l++m) (xs++ys):=by
 refine⟨by simp[h.1,d.1],fun k a x e c=>?_⟩
 by_cases f:k<l.length
 · rw[List.getElem?_append_left f] at e
   rw[Array.getElem?_append_left (h.1▸f)] at c
   exact h.2 k a x e c
 · rw[List.getElem?_append_right (by omega)] at e
   rw[Array.getElem?_append_right (by have:=h.1;omega),←h.1] at c
   exact d.2 _ a x e c
theorem fG.drop {g:Gh}{l:List AV}{xs:Array Value}(h:fG g l xs)(n:Nat):fG g (l.drop n) (xs.extract n xs.size):=by
 refine⟨by simp[h.1],fun k a x e c=>?_⟩
 rw[List.getElem?_drop] at e
 rw[Array.getElem?_extract] at c
 split at c
 · exact h.2 _ a x e c
 · simp at c
inductive ak where
 | arr (sz : Nat) (es : List AV)
 | mp (kvs : List (AV × AV))
 | lp (st : LoopState) (pending : Option Code) (fn : FuncId) (n mask : Nat) (env : List (Nat × AV)) (params : List Tmp) (assign body : Code)
 | df (open_ : Bool)
 | si (s : ByteArray) (pos : Nat)
 | mi (m since : Nat) (seen : List Nat)
 | mz
 deriving Inhabited
inductive PT where
 | nil
 | node (o : Option ak) (l r : PT)
 deriving Inhabited
noncomputable def PT.get (_:Nat)(t:PT):Nat→Option ak:=
 PT.rec (motive:=fun _=>Nat→Option ak) (fun _=>none)
  (fun o _ _ c d i=>Bool.rec (motive:=fun _=>Option ak) (Bool.rec (motive:=fun _=>Option ak) (c (i/2)) (d (Nat.pred (i/2))) (Nat.beq (i%2) 0)) o (Nat.beq i 0)) t
noncomputable def PT.BD (n:Nat):PT→Nat→Option ak→PT:=
 Nat.rec (motive:=fun _=>PT→Nat→Option ak→PT) (fun t _ _=>t)
  (fun _ c t i v=>PT.rec (motive:=fun _=>PT)
   (Bool.rec (motive:=fun _=>PT) (Bool.rec (motive:=fun _=>PT) (.node none (c .nil (i/2) v) .nil) (.node none .nil (c .nil (Nat.pred (i/2)) v)) (Nat.beq (i%2) 0)) (.node v .nil .nil) (Nat.beq i 0))
   (fun o l r _ _=>Bool.rec (motive:=fun _=>PT) (Bool.rec (motive:=fun _=>PT) (.node o (c l (i/2) v) r) (.node o l (c r (Nat.pred (i/2)) v)) (Nat.beq (i%2) 0)) (.node v l r) (Nat.beq i 0)) t) n
def PT.set (_:Nat)(t:PT)(i:Nat)(v:Option ak):PT:=PT.BD (i+1) t i v
theorem PT.get_nil (d i:Nat):PT.get d .nil i=none:=rfl
theorem PT.rn (d:Nat)(o:Option ak)(l r:PT)(i:Nat):PT.get d (.node o l r) i=if i=0 then o else if i%2=0 then PT.get d r (i/2-1) else PT.get d l (i/2):=by
 have e:PT.get d (.node o l r) i=Bool.rec (motive:=fun _=>Option ak) (Bool.rec (motive:=fun _=>Option ak) (PT.get d l (i/2)) (PT.get d r (Nat.pred (i/2))) (Nat.beq (i%2) 0)) o (Nat.beq i 0):=by
   first
    | rfl
    | (simp only[PT.get];cases Nat.beq i 0<;>cases Nat.beq (i%2) 0<;>rfl)
 rw[e]
 by_cases h0:i=0
 · subst h0;rfl
 · rw[if_neg h0,show Nat.beq i 0=false from by rw[Bool.eq_false_iff];exact fun q=>h0 (jK q)]
   by_cases h1:i%2=0
   · rw[if_pos h1,h1];rfl
   · rw[if_neg h1,show Nat.beq (i%2) 0=false from by rw[Bool.eq_false_iff];exact fun q=>h1 (jK q)]
def PT.left : PT→PT
 | .nil=>.nil
 | .node _ l _=>l
def PT.right : PT→PT
 | .nil=>.nil
 | .node _ _ r=>r
def PT.top : PT→Option ak
 | .nil=>none
 | .node o _ _=>o
theorem PT.CT (n:Nat)(t:PT)(i:Nat)(v:Option ak):PT.BD (n+1) t i v=if i=0 then .node v t.left t.right else if i%2=0 then .node t.top t.left (PT.BD n t.right (i/2-1) v) else .node t.top (PT.BD n t.left (i/2) v) t.right:=by
 have e:PT.BD (n+1) t i v=Bool.rec (motive:=fun _=>PT) (Bool.rec (motive:=fun _=>PT) (.node t.top (PT.BD n t.left (i/2) v) t.right) (.node t.top t.left (PT.BD n t.right (Nat.pred (i/2)) v)) (Nat.beq (i%2) 0)) (.node v t.left t.right) (Nat.beq i 0):=by
   cases t<;>first
    | rfl
    | (simp only[PT.BD];cases Nat.beq i 0<;>cases Nat.beq (i%2) 0<;>rfl)
 rw[e]
 by_cases h0:i=0
 · subst h0;rfl
 · rw[if_neg h0,show Nat.beq i 0=false from by rw[Bool.eq_false_iff];exact fun q=>h0 (jK q)]
   by_cases h1:i%2=0
   · rw[if_pos h1,h1];rfl
   · rw[if_neg h1,show Nat.beq (i%2) 0=false from by rw[Bool.eq_false_iff];exact fun q=>h1 (jK q)]
theorem PT.get_eq (d:Nat)(t:PT)(i:Nat):PT.get d t i=if i=0 then t.top else if i%2=0 then PT.get d t.right (i/2-1) else PT.get d t.left (i/2):=by
 cases t with
 | nil=>simp only[PT.get_nil,PT.top,PT.left,PT.right];split<;>first | rfl | (split<;>rfl)
 | node o l r=>exact PT.rn d o l r i
theorem PT.BQ (d:Nat)(v:Option ak):∀(n:Nat) (t:PT) (i:Nat),i<n→PT.get d (PT.BD n t i v) i=v:=by
 intro n
 induction n with
 | zero=>intro t i h;omega
 | succ n c=>
   intro t i h
   rw[PT.CT]
   by_cases h0:i=0
   · subst h0;simp[PT.rn]
   · by_cases h1:i%2=0
     · simp only[if_neg h0,if_pos h1,PT.rn];exact c _ _ (by omega)
     · simp only[if_neg h0,if_neg h1,PT.rn];exact c _ _ (by omega)
theorem PT.Ba (d:Nat)(v:Option ak):∀(n:Nat) (t:PT) (i j:Nat),i≠j→PT.get d (PT.BD n t i v) j=PT.get d t j:=by
 intro n
 induction n with
 | zero=>intro t i j h;rfl
 | succ n f=>
   intro t i j h
   rw[PT.CT,PT.get_eq d t j]
   by_cases h0:i=0
   · have m:¬ j=0:=by omega
     simp only[if_pos h0,PT.rn,if_neg m]
   · by_cases h1:i%2=0
     · simp only[if_neg h0,if_pos h1,PT.rn]
       by_cases c:j=0
       · simp[c]
       · by_cases e:j%2=0
         · simp only[if_neg c,if_pos e];exact f _ _ _ (by omega)
         · simp[if_neg c,if_neg e]
     · simp only[if_neg h0,if_neg h1,PT.rn]
       by_cases c:j=0
       · simp[c]
       · by_cases e:j%2=0
         · simp[if_neg c,if_pos e]
         · simp only[if_neg c,if_neg e];exact f _ _ _ (by omega)
theorem PT.bD (d:Nat)(t:PT)(i:Nat)(v:Option ak):PT.get d (PT.set d t i v) i=v:=PT.BQ d v _ t i (by omega)
theorem PT.sj (d:Nat)(t:PT)(i j:Nat)(v:Option ak)(h:i≠j):PT.get d (PT.set d t i v) j=PT.get d t j:=PT.Ba d v _ t i j h
abbrev Ok (i:Nat):Prop:=i<i+1
theorem PT.au (d:Nat)(t:PT)(i j:Nat)(v:Option ak)(_:Ok i)(_:Ok j)(c:i≠j):PT.get d (PT.set d t i v) j=PT.get d t j:=PT.sj d t i j v c
def dep : Nat:=13
structure af where
 nx : Nat
 lim : Nat
 m : PT
def af.get (s:af)(i:Nat):Option ak:=PT.get dep s.m i
def af.set (s:af)(i:Nat)(o:ak):af:=
 match s with
 | ⟨nx,lim,m⟩=>⟨nx,lim,PT.set dep m i (some o)⟩
def af.del (s:af)(i:Nat):af:=
 match s with
 | ⟨nx,lim,m⟩=>⟨nx,lim,PT.set dep m i none⟩
def af.add (s:af)(o:ak):af:=
 match s with
 | ⟨nx,lim,m⟩=>⟨Nat.succ nx,lim,PT.set dep m nx (some o)⟩
def af.empty : af:=⟨0,0,.nil⟩
variable {s : af} {i : Nat}
theorem af.fY (h:¬ Ok i):s.get i=none:=absurd (nM i) h
theorem af.bY (_:Ok i):s.get i=PT.get dep s.m i:=rfl
variable {o : ak}
theorem af.dY (_:s.get i=some o):Ok i:=nM i
theorem af.di (i:Nat):af.empty.get i=none:=by
 by_cases hi:Ok i
 · rw[af.bY hi];exact PT.get_nil _ _
 · exact af.fY hi
theorem af.bD {s:af}{i:Nat}{o:ak}(h:Ok i):(s.set i o).get i=some o:=by
 rw[af.bY h];exact PT.bD _ _ _ _
theorem af.au {s:af}{i j:Nat}{o:ak}(h:Ok i)(d:j≠i):(s.set i o).get j=s.get j:=by
 by_cases c:Ok j
 · rw[af.bY c,af.bY c];exact PT.au _ _ _ _ _ h c (Ne.symm d)
 · rw[af.fY c,af.fY c]
theorem af.fJ : (s.del i).get i=none:=by
 by_cases h:Ok i
 · rw[af.bY h];exact PT.bD _ _ _ _
 · exact af.fY h
variable {j : Nat}
theorem af.cn (h:Ok i)(d:j≠i):(s.del i).get j=s.get j:=by
 by_cases c:Ok j
 · rw[af.bY c,af.bY c];exact PT.au _ _ _ _ _ h c (Ne.symm d)
 · rw[af.fY c,af.fY c]
theorem af.lJ (h:Ok s.nx):(s.add o).get s.nx=some o:=by
 rw[af.bY h];exact PT.bD _ _ _ _
theorem af.dI (h:Ok s.nx)(d:j≠s.nx):(s.add o).get j=s.get j:=by
 by_cases c:Ok j
 · rw[af.bY c,af.bY c];exact PT.au _ _ _ _ _ h c (Ne.symm d)
 · rw[af.fY c,af.fY c]
noncomputable def lk (l:List (Nat×AV))(t:Nat):Option AV:=
 List.rec (motive:=fun _=>Option AV) none (fun p _ c=>Bool.rec (motive:=fun _=>Option AV) c (some p.2) (Nat.beq p.1 t)) l
noncomputable def up (l:List (Nat×AV))(t:Nat)(v:AV):List (Nat×AV):=
 List.rec (motive:=fun _=>List (Nat×AV)) [(t,v)] (fun p r c=>Bool.rec (motive:=fun _=>List (Nat×AV)) (p::c) ((p.1,v)::r) (Nat.beq p.1 t)) l
theorem oh (t:Nat):lk [] t=none:=rfl
theorem gz (k:Nat)(v:AV)(r:List (Nat×AV))(t:Nat):lk ((k,v)::r) t=match Nat.beq k t with
  | true=>some v
  | false=>lk r t:=by
 cases h:Nat.beq k t
 · exact(show lk ((k,v)::r) t=Bool.rec (motive:=fun _=>Option AV) (lk r t) (some v) (Nat.beq k t) from by first | rfl | (simp only[lk,h])).trans (by rw[h])
 · exact(show lk ((k,v)::r) t=Bool.rec (motive:=fun _=>Option AV) (lk r t) (some v) (Nat.beq k t) from by first | rfl | (simp only[lk,h])).trans (by rw[h])
theorem Hc (t:Nat)(v:AV):up [] t v=[(t,v)]:=rfl
theorem DX (k:Nat)(u:AV)(r:List (Nat×AV))(t:Nat)(v:AV):up ((k,u)::r) t v=match Nat.beq k t with
  | true=>(k,v)::r
  | false=>(k,u)::up r t v:=by
 cases h:Nat.beq k t
 · exact(show up ((k,u)::r) t v=Bool.rec (motive:=fun _=>List (Nat×AV)) ((k,u)::up r t v) ((k,v)::r) (Nat.beq k t) from by first | rfl | (simp only[up,h])).trans (by rw[h])
 · exact(show up ((k,u)::r) t v=Bool.rec (motive:=fun _=>List (Nat×AV)) ((k,u)::up r t v) ((k,v)::r) (Nat.beq k t) from by first | rfl | (simp only[up,h])).trans (by rw[h])
theorem tB (l:List (Nat×AV))(t:Nat)(v:AV):lk (up l t v) t=some v:=by
 induction l with
 | nil=>simp[Hc,gz]
 | cons a r c=>
   obtain⟨k,u⟩:=a
   simp only[DX]
   cases h:Nat.beq k t with
   | true=>simp[gz,h]
   | false=>simp[gz,h,c]
theorem sk (l:List (Nat×AV)){t s:Nat}(v:AV)(c:s≠t):lk (up l t v) s=lk l s:=by
 induction l with
 | nil=>
   simp only[Hc,oh,gz]
   rw[show Nat.beq t s=false from by rw[Bool.eq_false_iff];exact fun e=>c (jK e).symm]
 | cons a r d=>
   obtain⟨k,u⟩:=a
   simp only[DX]
   cases h:Nat.beq k t with
   | true=>
     have f:k=t:=jK h
     simp only[gz]
     rw[show Nat.beq k s=false from by rw[Bool.eq_false_iff];exact fun e=>c ((jK e).symm.trans f)]
   | false=>simp only[gz,d]
def LR (g:Gh)(l:List (Nat×AV))(tmps:Array Value):Prop:=∀(t:Nat) (v:AV),lk l t=some v→∃ x,tmps[t]? = some x∧VR g v x
theorem LR.mono {g g' : Gh}(c:Gh.le g g'){l:List (Nat×AV)}{tmps:Array Value}(h:LR g l tmps):LR g' l tmps:=
 fun t v e=>let ⟨x,hx,d⟩:=h t v e;⟨x,hx,d.mono c⟩
def sH (g:Gh)(l:Loc)(x:Option Obj):ak→Prop
 | .arr sz es=>∃ c t,x=some (.cells c t (0,0))∧c.size=l.bz∧l.sz=sz∧l.base+es.length*sz≤c.size∧(∀ e,e∈es→e.cells.length=sz) ∧
  ∀(i j:Nat) (e a:AV) (y:Value),es[i]? = some e→e.cells[j]? = some a→c[l.base+i*sz+j]? = some y→VR g a y
 | .mp d=>∃ es clock,x=some (.map es clock)∧es.size=d.length ∧
  (∀(k:Nat) (f:AV×AV) (e:MapEntry),d[k]? = some f→es[k]? = some e→VR g f.1 e.key∧VR g f.2 e.val)∧clock=es.size∧∀(k:Nat) (e:MapEntry),es[k]? = some e→e.born=k
 | .lp st pending fn n _ env params assign body=>∃ lo,x=some (.loop lo)∧lo.state=st∧lo.pending=pending∧lo.fn=fn∧lo.tmps.size=n∧LR g env lo.tmps ∧
  lo.params=params.toArray∧lo.assign=assign∧lo.body=body
 | .df o=>x=some (.deferred (if o then some [] else none))
 | .si s p=>x=some (.stringIter s p)∧l.base=0
 | .mi m since seen=>∃ lm,g.ph m=some lm∧x=some (.mapIter (some lm.cd) since seen.toArray since)∧l.base=0
 | .mz=>∃ a b c,x=some (.mapIter none a b c)∧l.base=0
theorem sH.mono {g g' : Gh}(d:Gh.le g g'){l:Loc}{x:Option Obj}{o:ak}(h:sH g l x o):sH g' l x o:=by
 cases o with
 | arr sz es=>
   obtain⟨c,t,h1,h2,h3,h4,h5,h6⟩:=h
   exact⟨c,t,h1,h2,h3,h4,h5,fun i j e a y p q r=>(h6 i j e a y p q r).mono d⟩
 | mp u=>
   obtain⟨es,k,h1,h2,h3,h4⟩:=h
   exact⟨es,k,h1,h2,fun i f e p q=>⟨(h3 i f e p q).1.mono d,(h3 i f e p q).2.mono d⟩,h4⟩
 | lp st pending fn n mk env params assign body=>
   obtain⟨lo,h1,h2,h3,h4,h5,h6,h7,h8,h9⟩:=h
   exact⟨lo,h1,h2,h3,h4,h5,h6.mono d,h7,h8,h9⟩
 | df o=>exact h
 | si s p=>exact h
 | mi m since seen=>obtain⟨lm,a,b,c⟩:=h;exact⟨lm,d.ph _ _ a,b,c⟩
 | mz=>exact h
theorem sH.some {g:Gh}{l:Loc}{x:Option Obj}{o:ak}(h:sH g l x o):∃ y,x=some y:=by
 cases o with
 | arr sz es=>obtain⟨c,t,h1,_⟩:=h;exact⟨_,h1⟩
 | mp d=>obtain⟨es,k,h1,_⟩:=h;exact⟨_,h1⟩
 | lp st pending fn n mk env params assign body=>obtain⟨lo,h1,_⟩:=h;exact⟨_,h1⟩
 | df o=>exact⟨_,h⟩
 | si s p=>exact⟨_,h.1⟩
 | mi m since seen=>obtain⟨lm,a,b,c⟩:=h;exact⟨_,b⟩
 | mz=>obtain⟨a,b,c,h,_⟩:=h;exact⟨_,h⟩
structure Inv (S : af) (g : Gh) (w : World) : Prop where
 ro : ∀ b c, g.ro b = some c → ∃ t fz, w.heap[b]? = some (.cells c t fz)
 ob : ∀ id o, S.get id = some o → ∃ l, g.ph id = some l ∧ g.ro l.cd = none ∧ sH g l w.heap[l.cd]? o
 inj : ∀ id id' o o' l l', S.get id = some o → S.get id' = some o' → g.ph id = some l → g.ph id' = some l' → l.cd = l'.cd → id = id'
 fresh : ∀ id, S.nx ≤ id → g.ph id = none
abbrev ET (w' w:World):Prop:=w'.tape=w.tape∧w.drawn≤w'.drawn
theorem ET.trans {a b c:World}(h:ET a b)(k:ET b c):ET a c:=⟨h.1.trans k.1,Nat.le_trans k.2 h.2⟩
structure Ext (S : af) (g : Gh) (w : World) (S' : af) (g' : Gh) (w' : World) : Prop where
 size : w.heap.size ≤ w'.heap.size
 os : w'.os = w.os
 tape : ET w' w
 output : w'.output = w.output
 gQ : ∀ b, b < w.heap.size → (∀ id o l, S.get id = some o → S.lim ≤ id → g.ph id = some l → l.cd ≠ b) → w'.heap[b]? = w.heap[b]?
 own : ∀ id o l, S'.get id = some o → S.lim ≤ id → g'.ph id = some l → l.cd < w.heap.size → ∃ id0 o0 l0, S.get id0 = some o0 ∧ S.lim ≤ id0 ∧ g.ph id0 = some l0 ∧ l0.cd = l.cd
 ng : Gh.le g g'
 nx : S.nx ≤ S'.nx
 lim : S'.lim = S.lim
 sM : ∀ id, id < S.lim → S'.get id = S.get id
 rM : ∀ id, id < S.nx → g'.ph id = g.ph id
 wC : ∀ b c, g'.ro b = some c → b < w.heap.size → g.ro b = some c ∨ ∃ id0 o0 l0, S.get id0 = some o0 ∧ S.lim ≤ id0 ∧ g.ph id0 = some l0 ∧ l0.cd = b
 dead : ∀ id, id < S.nx → S.get id = none → S'.get id = none
 fz : ∀ a, a.block < w.heap.size → w'.frozen? a = w.frozen? a
theorem Ext.refl (S:af)(g:Gh)(w:World):Ext S g w S g w:=
 ⟨Nat.le_refl _,rfl,⟨rfl,Nat.le_refl _⟩,rfl,fun _ _ _=>rfl,fun id o l h h1 h2 _=>⟨id,o,l,h,h1,h2,rfl⟩,Gh.le_refl _,Nat.le_refl _,rfl,fun _ _=>rfl,fun _ _=>rfl,fun _ _ e _=>.inl e,fun _ _ e=>e,fun _ _=>rfl⟩
def xH : Option Obj→Bool
 | some (.cells _ _ (0,0))=>true
 | some (.cells _ _ _)=>false
 | _=>true
variable {w : World}
theorem uC {a:Addr}(h:xH w.heap[a.block]? = true):w.frozen? a=false:=by
 unfold World.frozen?
 generalize w.heap[a.block]? = x at h
 cases x with
 | none=>rfl
 | some ob=>
   cases ob with
   | cells c t fz=>
     obtain⟨lo,hi⟩:=fz
     cases lo with
     | zero=>
       cases hi with
       | zero=>simp
       | succ n=>simp[xH] at h
     | succ n=>simp[xH] at h
   | _=>rfl
theorem sH.xH {g:Gh}{l:Loc}{x:Option Obj}{o:ak}(h:sH g l x o):xH x=true:=by
 cases o with
 | arr sz es=>obtain⟨c,t,h1,_⟩:=h;rw[h1];rfl
 | mp d=>obtain⟨es,k,h1,_⟩:=h;rw[h1];rfl
 | lp st pending fn n mk env params assign body=>obtain⟨lo,h1,_⟩:=h;rw[h1];rfl
 | df o=>have h:x=_:=h;rw[h];rfl
 | si s p=>rw[h.1];rfl
 | mi m since seen=>obtain⟨lm,a,b,c⟩:=h;rw[b];rfl
 | mz=>obtain⟨a,b,c,h,_⟩:=h;rw[h];rfl
variable {w' : World} {b : Nat}
theorem uD (d:xH w.heap[b]? = true)(c:xH w'.heap[b]? = true)(f:∀ k,k≠b→w'.heap[k]? = w.heap[k]?)(a:Addr):w'.frozen? a=w.frozen? a:=by
 by_cases e:a.block=b
 · rw[uC (w:=w) (by rw[e];exact d),uC (w:=w') (by rw[e];exact c)]
 · unfold World.frozen?
   rw[f _ e]
theorem Ext.trans {S L y:af}{g g' z:Gh}{w w' C:World}(h:Ext S g w L g' w')(k:Ext L g' w' y z C):Ext S g w y z C:=by
 refine⟨Nat.le_trans h.size k.size,k.os.trans h.os,ET.trans k.tape h.tape,k.output.trans h.output,?_,?_,Gh.le_trans h.ng k.ng,Nat.le_trans h.nx k.nx,k.lim.trans h.lim,?_,?_,?_,fun id aQ e=>k.dead id (Nat.lt_of_lt_of_le aQ h.nx) (h.dead id aQ e),fun a M=>(k.fz a (Nat.lt_of_lt_of_le M h.size)).trans (h.fz a M)⟩
 · intro b f D
   rw[k.gQ b (Nat.lt_of_lt_of_le f h.size) ?_,h.gQ b f D]
   intro id o l E F G p
   obtain⟨d,o0,r,t,u,v,m⟩:=h.own id o l E (h.lim▸F) G (p▸f)
   exact D d o0 r t u v (m.trans p)
 · intro id o l E F G p
   obtain⟨d,o0,r,t,u,v,m⟩:=k.own id o l E (h.lim.symm▸F) G (Nat.lt_of_lt_of_le p h.size)
   obtain⟨n,o1,l1,H,I,J,K⟩:=h.own d o0 r t (h.lim▸u) v (m▸p)
   exact⟨n,o1,l1,H,I,J,K.trans m⟩
 · intro id aQ
   rw[k.sM id (h.lim.symm▸aQ),h.sM id aQ]
 · intro id aQ
   rw[k.rM id (Nat.lt_of_lt_of_le aQ h.nx),h.rM id aQ]
 · intro b c e f
   rcases k.wC b c e (Nat.lt_of_lt_of_le f h.size) with q | ⟨d,o0,r,t,u,v,m⟩
   · exact h.wC b c q f
   · obtain⟨n,o1,l1,H,I,J,K⟩:=h.own d o0 r t (h.lim▸u) v (m▸f)
     exact .inr ⟨n,o1,l1,H,I,J,K.trans m⟩
def Gh.add (g:Gh)(id:Nat)(l:Loc):Gh:={ g with ph:=fun k=>if k=id then some l else g.ph k }
theorem Gh.add_same (g:Gh)(id:Nat)(l:Loc):(g.add id l).ph id=some l:=by simp[Gh.add]
variable {id : Nat}
theorem Gh.eR (g:Gh)(l:Loc)(h:k≠id):(g.add id l).ph k=g.ph k:=by simp[Gh.add,h]
theorem Gh.L3 (l:Loc)(h:g.ph id=none):Gh.le g (g.add id l):=
 ⟨fun _ _ e=>e,fun k x e=>by rw[Gh.eR];exact e;rintro rfl;rw[h] at e;simp at e⟩
variable {l : Loc} {S : af}
theorem Inv.CA (h:Inv S g w)(e:g.ph id=some l):id<S.nx:=by
 rcases Nat.lt_or_ge id S.nx with k | k
 · exact k
 · rw[h.fresh id k] at e;simp at e
theorem Inv.jy (h:Inv S g w)(e:S.get id=some o):id<S.nx:=
 let ⟨_,c,_,_⟩:=h.ob id o e;h.CA c
theorem Inv.LF (h:Inv S g w){c:Array Value}(e:g.ro b=some c):b<w.heap.size:=by
 obtain⟨t,fz,hh⟩:=h.ro b c e
 exact(Array.getElem?_eq_some_iff.1 hh).1
theorem sH.lt (h:sH g l w.heap[l.cd]? o):l.cd<w.heap.size:=by
 obtain⟨y,c⟩:=h.some
 exact(Array.getElem?_eq_some_iff.1 c).1
theorem Inv.alloc (h:Inv S g w)(m:Ok S.nx){ob:Obj}(J:l.cd=w.heap.size)(C:sH g l (some ob) o)(hh:w'.heap=w.heap.push ob)(G:w'.os=w.os)(M:ET w' w)(H:w'.output=w.output)(L:S.lim≤S.nx) :
   Inv (S.add o) (g.add S.nx l) w' ∧ Ext S g w (S.add o) (g.add S.nx l) w' := by
 have N:=h.fresh S.nx (Nat.le_refl _)
 have z:Gh.le g (g.add S.nx l):=Gh.L3 l N
 have f:∀ b,b<w.heap.size→w'.heap[b]? = w.heap[b]? := by
   intro b E;rw[hh,Array.getElem?_push,if_neg (by omega)]
 have r:w'.heap[w.heap.size]? = some ob:=by rw[hh,Array.getElem?_push,if_pos rfl]
 have I:g.ro w.heap.size=none:=by
   cases e:g.ro w.heap.size with
   | none=>rfl
   | some c=>exact absurd (h.LF e) (by omega)
 refine⟨⟨?_,?_,?_,?_⟩,⟨?_,G,M,H,?_,?_,z,?_,rfl,?_,fun k K=>Gh.eR _ _ (by omega),fun _ _ e _=>.inl e,fun id aQ e=>by rw[af.dI m (by omega)];exact e,fun a _=>uD (b:=w.heap.size) (by rw[Array.getElem?_eq_none (Nat.le_refl _)];rfl) (by rw[r];exact C.xH) (fun k K=>by rw[hh,Array.getElem?_push,if_neg K]) a⟩⟩
 · intro b c e
   obtain⟨t,fz,O⟩:=h.ro b c e
   exact⟨t,fz,(f b (h.LF e)).trans O⟩
 · intro id P e
   by_cases aQ:id=S.nx
   · subst aQ
     rw[af.lJ m] at e
     simp only[ar] at e
     subst e
     refine⟨l,Gh.add_same _ _ _,?_,?_⟩
     · rw[J];exact I
     · rw[J,r];exact C.mono z
   · rw[af.dI m aQ] at e
     obtain⟨l', n,p,q⟩:=h.ob id P e
     refine⟨l', (Gh.eR _ _ aQ).trans n,p,?_⟩
     rw[f _ q.lt]
     exact q.mono z
 · intro id D o1 o2 l1 l2 n p u v E
   by_cases aQ:id=S.nx<;>by_cases d:D=S.nx
   · rw[aQ,d]
   · exfalso
     subst aQ
     rw[Gh.add_same] at u;rw[Gh.eR _ _ d] at v;rw[af.dI m d] at p
     obtain⟨l', y,_,F⟩:=h.ob _ _ p
     rw[v] at y;simp only[ar] at y u;subst y;subst u
     have:=F.lt;omega
   · exfalso
     subst d
     rw[Gh.add_same] at v;rw[Gh.eR _ _ aQ] at u;rw[af.dI m aQ] at n
     obtain⟨l', y,_,F⟩:=h.ob _ _ n
     rw[u] at y;simp only[ar] at y v;subst y;subst v
     have:=F.lt;omega
   · rw[Gh.eR _ _ aQ] at u;rw[Gh.eR _ _ d] at v
     rw[af.dI m aQ] at n;rw[af.dI m d] at p
     exact h.inj id D o1 o2 l1 l2 n p u v E
 · intro id aQ
   have d:S.nx+1≤id:=aQ
   rw[Gh.eR _ _ (by omega)]
   exact h.fresh id (by omega)
 · rw[hh,Array.size_push];omega
 · intro b E _;exact f b E
 · intro id o1 l1 n p q Q
   by_cases aQ:id=S.nx
   · subst aQ;rw[Gh.add_same] at q;simp only[ar] at q;subst q;omega
   · rw[af.dI m aQ] at n;rw[Gh.eR _ _ aQ] at q
     exact⟨id,o1,l1,n,p,q,rfl⟩
 · show S.nx≤S.nx+1;omega
 · intro id aQ;exact af.dI m (by omega)
variable {o' : ak} {ob' : Obj}
theorem Inv.j2 (h:Inv S g w)(aQ:S.get id=some o)(q:S.lim≤id)(r:g.ph id=some l)(W:w'.heap.size=w.heap.size)(J:w'.heap[l.cd]? = some ob')(u:∀ k,k≠l.cd→w'.heap[k]? = w.heap[k]?)(z:w'.os=w.os)(N:ET w' w)(C:w'.output=w.output)(p:sH g l (some ob') o') :
   Inv (S.set id o') g w' ∧ Ext S g w (S.set id o') g w' := by
 have hi:=af.dY aQ
 obtain⟨X,y,K,O⟩:=h.ob id o aQ
 rw[r] at y;simp only[ar] at y;subst y
 refine ⟨⟨?_,?_,?_,?_⟩,⟨?_,z,N,C,?_,?_,Gh.le_refl _,Nat.le_refl _,rfl,?_,fun _ _=>rfl,fun _ _ e _=>.inl e,fun d _ e=>by
   rw[af.au hi (by rintro rfl;rw[aQ] at e;simp at e)];exact e,fun a _=>uD (b:=l.cd) O.xH (by rw[J];exact p.xH) u a⟩⟩
 · intro b c e
   obtain⟨t,fz,P⟩:=h.ro b c e
   refine⟨t,fz,(u b ?_).trans P⟩
   rintro rfl;rw[K] at e;simp at e
 · intro d L e
   by_cases f:d=id
   · subst f
     rw[af.bD hi] at e;simp only[ar] at e;subst e
     exact⟨l,r,K,by rw[J];exact p⟩
   · rw[af.au hi f] at e
     obtain⟨l', m,n,v⟩:=h.ob d L e
     refine⟨l', m,n,?_⟩
     rw[u];exact v
     intro Q;exact f (h.inj d id L o l' l e aQ m r Q)
 · intro a b o1 o2 l1 l2 m n R T D
   have key:∀ k o1,(S.set id o').get k=some o1→∃ o2,S.get k=some o2:=by
     intro k o1 e
     by_cases f:k=id
     · subst f;exact⟨o,aQ⟩
     · rw[af.au hi f] at e;exact⟨o1,e⟩
   obtain⟨E,F⟩:=key a o1 m
   obtain⟨G,H⟩:=key b o2 n
   exact h.inj a b E G l1 l2 F H R T D
 · intro k U;exact h.fresh k U
 · omega
 · intro b V I
   exact u b (fun e=>I id o l aQ q r e.symm)
 · intro d o1 l1 m n v Y
   by_cases f:d=id
   · subst f;exact⟨d,o,l1,aQ,n,v,rfl⟩
   · rw[af.au hi f] at m;exact⟨d,o1,l1,m,n,v,rfl⟩
 · intro d M;exact af.au hi (by omega)
structure af.sub (A B : af) : Prop where
 nx : B.nx = A.nx
 lim : A.lim = B.lim
 get : ∀ id o, A.get id = some o → B.get id = some o
variable {A B : af}
theorem Inv.sub (c:af.sub A B)(h:Inv B g w):Inv A g w:=
 ⟨h.ro,fun id o e=>h.ob id o (c.get id o e),fun id d o o' l l' e f=>h.inj id d o o' l l' (c.get _ _ e) (c.get _ _ f),fun id aQ=>h.fresh id (by rw[c.nx];exact aQ)⟩
theorem af.DY (h:Ok id):af.sub (S.del id) S:=
 ⟨rfl,rfl,fun k o e=>by
  by_cases c:k=id
  · subst c;rw[af.fJ] at e;simp at e
  · rw[af.cn h c] at e;exact e⟩
theorem Ext.forget (c:af.sub A B)(d:∀ id,id<B.lim→A.get id=B.get id):Ext B g w A g w:=
 ⟨Nat.le_refl _,rfl,⟨rfl,Nat.le_refl _⟩,rfl,fun _ _ _=>rfl,fun id o l e f h _=>⟨id,o,l,c.get id o e,f,h,rfl⟩,Gh.le_refl _,by rw[c.nx];exact Nat.le_refl _,c.lim,d,fun _ _=>rfl,fun _ _ e _=>.inl e,fun id _ e=>by
  cases q:A.get id with
  | none=>rfl
  | some o=>rw[c.get id o q] at e;simp at e,fun _ _=>rfl⟩
theorem Inv.move (h:Inv S g w)(R:Ok S.nx){l' : Loc}(aQ:S.get id=some o)(q:S.lim≤id)(D:g.ph id=some l)(n:l'.cd=l.cd)(hs:w'.heap.size=w.heap.size)(P:w'.heap[l.cd]? = some ob')(J:∀ k,k≠l.cd→w'.heap[k]? = w.heap[k]?)(M:w'.os=w.os)(T:ET w' w)(N:w'.output=w.output)(H:sH g l' (some ob') o') :
   Inv ((S.del id).add o') (g.add S.nx l') w' ∧ Ext S g w ((S.del id).add o') (g.add S.nx l') w' := by
 have hi:=af.dY aQ
 have Y:=h.jy aQ
 have U:=h.fresh S.nx (Nat.le_refl _)
 have z:Gh.le g (g.add S.nx l'):=Gh.L3 l' U
 have I:Ok (S.del id).nx:=R
 obtain⟨l0,K,Q,V⟩:=h.ob id o aQ
 rw[D] at K;simp only[ar] at K;subst K
 have W:((S.del id).add o').get S.nx=some o' := af.lJ (s:=S.del id) I
 have L:∀ k,k≠S.nx→((S.del id).add o').get k=(S.del id).get k:=fun k d=>af.dI (s:=S.del id) I d
 have E:∀ k a,k≠S.nx→((S.del id).add o').get k=some a→k≠id∧S.get k=some a:=by
   intro k a d e
   rw[L k d] at e
   by_cases m:k=id
   · subst m;rw[af.fJ] at e;simp at e
   · rw[af.cn hi m] at e;exact⟨m,e⟩
 refine ⟨⟨?_,?_,?_,?_⟩,⟨?_,M,T,N,?_,?_,z,?_,rfl,?_,fun k d=>Gh.eR _ _ (by omega),fun _ _ e _=>.inl e,fun k d e=>by
   rw[L k (by omega)]
   by_cases m:k=id
   · subst m;rw[aQ] at e;simp at e
   · rw[af.cn hi m];exact e,fun a _=>uD (b:=l.cd) V.xH (by rw[P];exact H.xH) J a⟩⟩
 · intro b c e
   obtain⟨t,fz,p⟩:=h.ro b c e
   refine⟨t,fz,(J b ?_).trans p⟩
   rintro rfl
   have:g.ro l.cd=some c:=e
   rw[Q] at this;simp at this
 · intro k a e
   by_cases d:k=S.nx
   · subst d;rw[W] at e;simp only[ar] at e;subst e
     refine⟨l', Gh.add_same _ _ _,?_,?_⟩
     · rw[n];exact Q
     · rw[n,P];exact H.mono z
   · obtain⟨m,p⟩:=E k a d e
     obtain⟨l1,r,F,u⟩:=h.ob k a p
     refine⟨l1,(Gh.eR _ _ d).trans r,F,?_⟩
     rw[J];exact u.mono z
     intro X;exact m (h.inj k id a o l1 l p aQ r D X)
 · intro a b o1 o2 l1 l2 r F v y C
   by_cases G:a=S.nx<;>by_cases f:b=S.nx
   · rw[G,f]
   · exfalso;subst G
     rw[Gh.add_same] at v;rw[Gh.eR _ _ f] at y
     simp only[ar] at v;subst v
     obtain⟨m,p⟩:=E b o2 f F
     exact m (h.inj b id o2 o l2 l p aQ y D (C.symm.trans n))
   · exfalso;subst f
     rw[Gh.add_same] at y;rw[Gh.eR _ _ G] at v
     simp only[ar] at y;subst y
     obtain⟨m,p⟩:=E a o1 G r
     exact m (h.inj a id o1 o l1 l p aQ v D (C.trans n))
   · rw[Gh.eR _ _ G] at v;rw[Gh.eR _ _ f] at y
     exact h.inj a b o1 o2 l1 l2 (E a o1 G r).2 (E b o2 f F).2 v y C
 · intro k d
   have Z:S.nx+1≤k:=d
   rw[Gh.eR _ _ (by omega)];exact h.fresh k (by omega)
 · omega
 · intro b f O
   exact J b (fun e=>O id o l aQ q D e.symm)
 · intro k o1 l1 r F u e4
   by_cases d:k=S.nx
   · subst d;rw[Gh.add_same] at u;simp only[ar] at u;subst u
     exact⟨id,o,l,aQ,q,D,n.symm⟩
   · rw[Gh.eR _ _ d] at u
     exact⟨k,o1,l1,(E k o1 d r).2,F,u,rfl⟩
 · show S.nx≤S.nx+1;omega
 · intro k d
   rw[L k (by omega),af.cn hi (by omega)]
end
end Go.Eng
namespace Go.Eng
noncomputable section
def nth {α:Type}:List α→Nat→Option α
 | [],_=>none
 | a::_,0=>some a
 | _::l,n+1=>nth l n
variable {α : Type}
theorem iB (l:List α)(n:Nat):nth l n=l[n]? := by
 induction l generalizing n with
 | nil=>simp[nth]
 | cons a l d=>cases n with
   | zero=>simp[nth]
   | succ n=>simp[nth,d]
def Jp (P:Program)(t:TypeId):Option Bool:=
 match P.underlying t with
 | some (.struct _)=>some true
 | some (.array _ _)=>some true
 | some _=>some false
 | none=>none
def pT (P:Program)(t:TypeId):Option Nat:=
 match P.info? t with
 | some i=>some i.size
 | none=>none
section
variable {P : Program} {w : World}
variable {t : TypeId}
theorem ag {d:TypeDesc}(h:P.underlying t=some d):(underlying t).run P w=.ok d w:=by
 simp[underlying,h]
theorem cZ {i:TypeInfo}(h:P.info? t=some i):(typeInfo t).run P w=.ok i w:=by
 simp[typeInfo,h]
theorem ot {b:Bool}(h:Jp P t=some b):(isAgg t).run P w=.ok b w:=by
 unfold Jp at h
 split at h<;>simp only[ar,reduceCtorEq] at h
 · rename_i a;subst h;simp[isAgg,ag a]
 · rename_i a;subst h;simp[isAgg,ag a]
 · rename_i d h1 h2 a
   subst h
   simp only[isAgg,Sem.run_bind,ag a,Result.andThen_ok]
   cases d<;>first | rfl | exact absurd rfl (h1 _) | exact absurd rfl (h2 _ _) | exact(h1 _ rfl).elim | exact(h2 _ _ rfl).elim
variable {n : Nat}
theorem run_sizeOf (h:pT P t=some n):(sizeOf t).run P w=.ok n w:=by
 unfold pT at h
 split at h<;>simp only[ar,reduceCtorEq] at h
 rename_i i hi
 subst h
 simp[sizeOf,cZ hi]
end
theorem Addr.nv (b o n:Nat):(⟨b,o,none⟩:Addr).add n=⟨b,o+n,none⟩:=by
 unfold Addr.add
 split
 · rename_i h;subst h;simp
 · simp
variable {t : TypeId} {w : World} {b o : Nat} {c : Array Value} {fz : Nat × Nat} {x : Value}
theorem cell_of (h:w.heap[b]? = some (.cells c t fz))(hx:c[o]? = some x):w.cell? ⟨b,o,none⟩=some x:=by
 simp[World.cell?, h,hx]
variable {P : Program}
theorem run_loadCellsFrom (h:w.heap[b]? = some (.cells c t fz)):∀(n i:Nat) (a:Array Value),
   o+i+n≤c.size→(loadCellsFrom ⟨b,o,none⟩ i n a).run P w=.ok (a++(c.extract (o+i) (o+i+n))) w:=by
 intro n
 induction n with
 | zero=>
   intro i a d
   have:c.extract (o+i) (o+i+0) = #[]:=by apply Array.ext';simp
   rw[this];simp[loadCellsFrom]
 | succ n e=>
   intro i a d
   have hx:c[o+i]? = some c[o+i]:=Bx (by omega)
   have f:w.cell? ⟨b,o+i,none⟩=some c[o+i]:=cell_of h hx
   simp only[loadCellsFrom,Sem.run_bind,Addr.nv,run_load,f,Result.andThen_ok]
   rw[e (i+1) _ (by omega)]
   congr 1
   apply Array.ext'
   simp only[Array.toList_append,Array.toList_push,Array.toList_extract]
   rw[List.append_assoc]
   congr 1
   have j:o+(i+1)+n-(o+(i+1))=n:=by omega
   have k:o+i+(n+1)-(o+i)=n+1:=by omega
   simp only[List.extract_eq_take_drop] at *
   rw[j,k]
   rw [show c.toList.drop (o+i)=c[o+i]::c.toList.drop (o+i+1) from by
    rw[List.drop_eq_getElem_cons (by simp;omega)];simp]
   simp[Nat.add_assoc]
variable {n : Nat}
theorem run_loadCells (h:w.heap[b]? = some (.cells c t fz))(a:o+n≤c.size) :
  (loadCells ⟨b,o,none⟩ n).run P w=.ok (c.extract o (o+n)) w:=by
 have:=run_loadCellsFrom (P:=P) h n 0 #[] (by simpa using a)
 simpa [loadCells] using this
def vK (g:Gh)(cs:List AV)(c:Array Value)(o:Nat):Prop:=o+cs.length≤c.size∧∀(j:Nat) (a:AV) (x:Value),cs[j]? = some a→c[o+j]? = some x→VR g a x
theorem vK.drop {g:Gh}{cs:List AV}{c:Array Value}{o:Nat}(h:vK g cs c o){k:Nat}(f:k≤cs.length):vK g (cs.drop k) c (o+k):=by
 refine⟨by have:=h.1;simp;omega,fun j a x e d=>?_⟩
 rw[List.getElem?_drop] at e
 exact h.2 (k+j) a x e (by rw[←d];congr 1;omega)
variable {g : Gh} {cs : List AV}
theorem vK.aqn (h:vK g cs c o)(f:n≤cs.length):fG g (cs.take n) (c.extract o (o+n)):=by
 refine⟨by have:=h.1;simp;omega,fun k a x e d=>?_⟩
 rw[List.getElem?_take] at e
 split at e
 · rw[Array.getElem?_extract] at d
   split at d
   · exact h.2 k a x e d
   · simp at d
 · simp at e
def jN (S:af):AV→Option (List AV)
 | .ptr id i j=>match S.get id with
   | some (.arr _ es)=>match nth es i with
     | some e=>match Nat.ble j e.cells.length with
       | true=>some (e.cells.drop j)
       | false=>none
     | none=>none
   | _=>none
 | .eV cs=>some cs
 | _=>none
variable {S : af} {v : AV}
theorem uI (hi:Inv S g w)(h:jN S v=some cs)(u:VR g v x) :
   ∃ b o c t fz,x=.pointer (some ⟨b,o,none⟩)∧w.heap[b]? = some (.cells c t fz)∧vK g cs c o:=by
 unfold jN at h
 split at h
 · rename_i id i j
   split at h<;>try (simp at h;done)
   rename_i sz es A
   split at h<;>try (simp at h;done)
   rename_i e m
   rw[iB] at m
   split at h<;>simp only[ar,reduceCtorEq] at h
   rename_i B
   subst h
   cases u with
   | ptr C=>
     rename_i l
     obtain⟨l', h1,h2,h3⟩:=hi.ob _ _ A
     rw[C] at h1;simp only[ar] at h1;subst h1
     obtain⟨c,t,D,I,z,J,E,F⟩:=h3
     have p:=eL B
     refine⟨l.cd,_,c,t,_,rfl,D,?_⟩
     have d:=E e (tl m)
     have s:i<es.length:=(List.getElem?_eq_some_iff.1 m).1
     have f:l.base+i*l.sz+e.cells.length≤c.size:=by
      rw[d,z]
      have:i*sz+sz≤es.length*sz:=by
       have:(i+1)*sz≤es.length*sz:=u9 _ s
       rw[Nat.succ_mul] at this;exact this
      omega
     have:vK g e.cells c (l.base+i*l.sz):=⟨f,fun k a y q r=>F i k e a y m q (by rw[←z];exact r)⟩
     exact this.drop p
 · cases u with
   | eV G H hh=>
     simp only[ar] at h;subst h
     obtain⟨t,fz,e⟩:=hi.ro _ _ G
     exact⟨_,_,_,t,fz,rfl,e,H,hh⟩
 · simp at h
def mI (P:Program)(t:TypeId)(cs:List AV):Option AV:=
 match Jp P t with
 | some true=>match pT P t with
   | some n=>match Nat.ble n cs.length with
     | true=>some (.agg (cs.take n))
     | false=>none
   | none=>none
 | some false=>nth cs 0
 | none=>none
theorem xi (hi:Inv S g w){r:AV}(h:jN S v=some cs)(a:mI P t cs=some r)(k:VR g v x) :
   ∃ y,(Instr.loadAt t x).run P w=.ok y w∧VR g r y:=by
 obtain⟨b,o,c,p,fz,rfl,j,e⟩:=uI hi h k
 unfold mI at a
 split at a
 · rename_i f
   split at a<;>try (simp at a;done)
   rename_i n l
   split at a<;>simp only[ar,reduceCtorEq] at a
   rename_i d
   have d:=eL d
   subst a
   refine⟨.agg (c.extract o (o+n)),?_,?_⟩
   · simp only[Instr.loadAt,Instr.sureAddr,Sem.run_bind,Sem.run_pure,Result.andThen_ok,loadVar,ot f,if_true,run_sizeOf l]
     rw[run_loadCells j (by have:=e.1;omega)]
     rfl
   · exact .agg (e.aqn d).1 (e.aqn d).2
 · rename_i f
   rw[iB] at a
   have m:0<cs.length:=(List.getElem?_eq_some_iff.1 a).1
   have i:o<c.size:=by have:=e.1;omega
   have hx:c[o]? = some c[o]:=Bx i
   refine⟨c[o],?_,e.2 0 r _ a (by simp)⟩
   simp only[Instr.loadAt,Instr.sureAddr,Sem.run_bind,Sem.run_pure,Result.andThen_ok,loadVar,ot f,Bool.false_eq_true,if_false,run_load,cell_of j hx]
 · simp at a
def dj : AV→Bool
 | .agg _=>false
 | .bm _=>false
 | .top=>false
 | _=>true
theorem nC (h:dj v=true)(a:VR g v x):x.oneCell' = true:=by
 cases a with
 | sc d=>cases x<;>first | rfl | simp[EX] at d
 | agg=>simp[dj] at h
 | bm=>simp[dj] at h
 | top=>simp[dj] at h
 | _=>rfl
def j5 {α:Type}:List α→Nat→List α→List α
 | l,_,[]=>l
 | [],_,_=>[]
 | _::l,0,y::ys=>y::j5 l 0 ys
 | a::l,n+1,ys=>a::j5 l n ys
theorem fU (l:List α)(n:Nat)(ys:List α):(j5 l n ys).length=l.length:=by
 induction l generalizing n ys with
 | nil=>cases ys<;>rfl
 | cons a l d=>cases ys with
   | nil=>rfl
   | cons y ys=>cases n<;>simp[j5,d]
theorem ia (l:List α)(n:Nat)(ys:List α)(d:n+ys.length≤l.length)(k:Nat):(j5 l n ys)[k]? = if n≤k∧k<n+ys.length then ys[k-n]? else l[k]? := by
 induction l generalizing n ys k with
 | nil=>cases ys<;>simp_all [j5]
 | cons a l e=>cases ys with
   | nil=>simp[j5];intro h f;omega
   | cons y ys=>
     cases n with
     | zero=>cases k with
       | zero=>simp[j5]
       | succ k=>
         simp only[j5,List.getElem?_cons_succ]
         rw[e 0 ys (by simp at d;omega)]
         simp
     | succ n=>cases k with
       | zero=>simp[j5]
       | succ k=>
         simp only[j5,List.getElem?_cons_succ]
         rw[e n (y::ys) (by simp at d ⊢;omega)]
         simp only[List.length_cons]
         by_cases h:n≤k∧k<n+(ys.length+1)
         · rw[if_pos h,if_pos (by omega)];congr 1;omega
         · rw[if_neg h,if_neg (by omega)]
def YG : List AV→AV
 | [v]=>match dj v with
   | true=>v
   | false=>.agg [v]
 | l=>.agg l
theorem CU (l:List AV):(YG l).cells=l:=by
 cases l with
 | nil=>rfl
 | cons v r=>
   cases r with
   | nil=>
     show(match dj v with | true=>v | false=>AV.agg [v]).cells=[v]
     cases a:dj v with
     | false=>rfl
     | true=>cases v<;>first | rfl | simp[dj] at a
   | cons u r=>rfl
def sf (P:Program)(S:af)(t:TypeId)(p v:AV):Option af:=
 match p with
 | .ptr id i j=>match S.get id with
   | some (.arr sz es)=>match nth es i with
     | some e=>match pT P t with
       | some n=>match Nat.beq v.cells.length n&&Nat.ble (j+n) e.cells.length&&v.cells.all dj&&Nat.ble S.lim id with
         | true=>some (S.set id (.arr sz (es.set i (YG (j5 e.cells j v.cells)))))
         | false=>none
       | none=>none
     | none=>none
   | _=>none
 | _=>none
theorem jP (h:VR g v x)(f:v.cells.all dj=true):fG g v.cells x.cells:=by
 have one:∀ {u:AV} {y:Value},VR g u y→fG g [u] #[y]:=by
   intro u y j
   exact fG.cons (xs:=[]) j ⟨rfl,by simp⟩
 cases h with
 | agg i h=>exact⟨i,h⟩
 | sc h=>
   have:Value.cells x = #[x]:=by cases x<;>first | rfl | simp[EX] at h
   rw[this];exact one (.sc h)
 | bm i h=>simp[AV.cells,dj] at f
 | top=>simp[AV.cells,dj] at f
 | eG=>exact one .eG
 | an=>exact one .an
 | ga a b=>exact one (.ga a b)
 | lit a b c d e=>exact one (.lit a b c d e)
 | gG=>exact one .gG
 | eV a b c=>exact one (.eV a b c)
 | ptr a=>exact one (.ptr a)
 | aj a b c=>exact one (.aj a b c)
 | dJ a=>exact one (.dJ a)
 | fn a b c d=>exact one (.fn a b c d)
 | fq a=>exact one (.fq a)
 | clip a=>exact one (.clip a)
 | pq a=>exact one (.pq a)
theorem nJ (d:List Value):∀(w:World) (c:Array Value) (i:Nat),w.heap[b]? = some (.cells c t (0,0))→o+i+d.length≤c.size→(∀ x,x∈d→x.oneCell' = true) →
   ∃ w', (storeCells ⟨b,o,none⟩ d i).run P w=.ok () w' ∧ w'.heap[b]? = some (.cells (j5 c.toList (o+i) d).toArray t (0,0))∧(∀ k,k≠b→w'.heap[k]? = w.heap[k]?)∧w'.heap.size=w.heap.size ∧
     w'.os=w.os∧ET w' w∧w'.output=w.output:=by
 induction d with
 | nil=>
   intro w c i h _ _
   refine⟨w,by simp[storeCells],?_,fun _ _=>rfl,rfl,rfl,⟨rfl,Nat.le_refl _⟩,rfl⟩
   have:j5 c.toList (o+i) []=c.toList:=by cases c.toList<;>rfl
   rw[this];simpa using h
 | cons v d q=>
   intro w c i h a p
   have f:o+i<c.size:=by simp at a;omega
   have hx:c[o+i]? = some c[o+i]:=Bx f
   have r:w.cell? ⟨b,o+i,none⟩=some c[o+i]:=cell_of h hx
   have s:w.frozen? ⟨b,o+i,none⟩=false:=by simp[World.frozen?, h]
   have u:v.oneCell' = true:=p v (by simp)
   have l:(w.setCell ⟨b,o+i,none⟩ v).heap[b]? = some (.cells (c.setIfInBounds (o+i) v) t (0,0)):=by
     simp[World.setCell,Array.getElem?_modify,h]
   obtain⟨w', h1,h2,h3,h4,h5,h6,h7⟩:=q (w.setCell ⟨b,o+i,none⟩ v) (c.setIfInBounds (o+i) v) (i+1) l (by simp at a ⊢;omega) (fun x hx=>p x (by simp[hx]))
   refine⟨w', ?_,?_,?_,?_,h5,h6,h7⟩
   · simp only[storeCells,Sem.run_bind,Addr.nv,run_store P w _ v _ u,r,s,Bool.false_eq_true,if_false,Result.andThen_ok]
     exact h1
   · rw[h2]
     congr 3
     apply List.ext_getElem?
     intro k
     rw[ia _ _ _ (by simp at a ⊢;omega),ia _ _ _ (by simp at a ⊢;omega)]
     simp only[Array.toList_setIfInBounds,List.getElem?_set,List.length_cons,Array.length_toList]
     by_cases m:k=o+i
     · subst m
       rw[if_neg (by omega),if_pos rfl,if_pos f,if_pos (by omega)]
       simp
     · by_cases j:o+(i+1)≤k∧k<o+(i+1)+d.length
       · rw[if_pos j,if_pos (by omega)]
         rw[show k-(o+i)=(k-(o+(i+1)))+1 from by omega,List.getElem?_cons_succ]
       · rw[if_neg j,if_neg (by omega),if_neg (by omega)]
   · intro k m
     rw[h3 k m]
     simp only[World.setCell,Array.getElem?_modify]
     rw[if_neg (fun e=>m e.symm)]
   · rw[h4];simp
theorem BR {L:af}(hi:Inv S g w){p:AV}{y:Value}(h:sf P S t p v=some L)(Y:VR g p x)(Z:VR g v y) :
   ∃ w', (Instr.storeAt t x y).run P w=.ok () w' ∧ Inv L g w' ∧ Ext S g w L g w' := by
 unfold sf at h
 split at h<;>try (simp at h;done)
 rename_i id i j
 split at h<;>try (simp at h;done)
 rename_i sz es T
 split at h<;>try (simp at h;done)
 rename_i e J
 rw[iB] at J
 split at h<;>try (simp at h;done)
 rename_i n hn
 split at h<;>simp only[ar,reduceCtorEq] at h
 rename_i s
 subst h
 simp only[Bool.and_eq_true] at s
 obtain⟨⟨⟨h1,h2⟩,h3⟩,h4⟩:=s
 have h1:v.cells.length=n:=jK h1
 have h2:=eL h2
 have h4:=eL h4
 cases Y with
 | ptr U=>
   rename_i l
   obtain⟨l', M,q2,q3⟩:=hi.ob _ _ T
   rw[U] at M;simp only[ar] at M;subst M
   obtain⟨c,V,p1,p2,u,p4,N,W⟩:=q3
   have r:=N e (tl J)
   have F:i<es.length:=(List.getElem?_eq_some_iff.1 J).1
   have X:i*sz+sz≤es.length*sz:=by
     have:(i+1)*sz≤es.length*sz:=u9 _ F
     rw[Nat.succ_mul] at this;exact this
   have f:=jP Z h3
   have I:∀ z,z∈y.cells.toList→z.oneCell' = true:=by
     intro z hz
     obtain⟨k,hk⟩:=List.getElem?_of_mem hz
     have G:y.cells[k]? = some z:=by simpa using hk
     have H:k<v.cells.length:=by rw[f.1];exact(Array.getElem?_eq_some_iff.1 G).1
     have ha:v.cells[k]? = some v.cells[k]:=oe H
     exact nC (List.all_eq_true.1 h3 _ (List.getElem_mem H)) (f.2 k _ z ha G)
   have B:y.cells.toList.length=n:=by rw[←h1,f.1];simp
   obtain⟨w', r1,r2,r3,r4,r5,r6,r7⟩:=nJ (P:=P) (b:=l.cd) (o:=l.base+i*l.sz+j) (t:=V) y.cells.toList w c 0 p1 (by rw[B,u];omega) I
   refine⟨w', ?_,?_⟩
   · simp only[Instr.storeAt,Instr.sureAddr,Sem.run_bind,Sem.run_pure,Result.andThen_ok,storeVar,run_sizeOf hn]
     rw[if_neg (by rw[←h1,f.1];simp)]
     exact r1
   · refine hi.j2 T h4 U r4 r2 r3 r5 r6 r7 ?_
     refine⟨_,V,rfl,?_,u,?_,?_,?_⟩
     · simp[fU,p2]
     · simp[fU];exact p4
     · intro K O
       rcases List.mem_or_eq_of_mem_set O with hm | hm
       · exact N K hm
       · subst hm;rw[CU,fU];exact r
     · intro E d K a z A m q
       rw[List.getElem?_toArray,ia _ _ _ (by rw[B,u];simp;omega),B] at q
       rw[List.getElem?_set] at A
       by_cases C:i=E
       · subst C
         rw[if_pos rfl,if_pos F] at A
         simp only[ar] at A
         subst A
         rw[CU,ia _ _ _ (by rw[h1];exact h2),h1] at m
         have Q:d<sz:=by
           by_cases s:j≤d∧d<j+n
           · omega
           · rw[if_neg s] at m;rw[←r];exact(List.getElem?_eq_some_iff.1 m).1
         by_cases s:j≤d∧d<j+n
         · rw[if_pos s] at m
           rw[if_pos (by rw[u];omega)] at q
           have e1:l.base+i*sz+d-(l.base+i*l.sz+j+0)=d-j:=by rw[u];omega
           rw[e1] at q
           exact f.2 _ a z m (by simpa using q)
         · rw[if_neg s] at m
           rw[if_neg (by rw[u];omega)] at q
           exact W i d e a z J m (by simpa using q)
       · rw[if_neg C] at A
         have Q:d<sz:=by rw[←N K (tl A)];exact(List.getElem?_eq_some_iff.1 m).1
         have R:¬ (l.base+i*l.sz+j+0≤l.base+E*sz+d∧l.base+E*sz+d<l.base+i*l.sz+j+0+n):=by
           rw[u]
           rintro⟨c1,c2⟩
           rcases Nat.lt_or_gt_of_ne C with D | D
           · have:(i+1)*sz≤E*sz:=u9 _ D
             rw[Nat.succ_mul] at this;omega
           · have:(E+1)*sz≤i*sz:=u9 _ D
             rw[Nat.succ_mul] at this;omega
         rw[if_neg R] at q
         exact W E d K a z A m (by simpa using q)
end
end Go.Eng
namespace Go.Eng
noncomputable section
def Hd (op:BinOp)(k:IntKind)(a b:Int):Option Value:=
 match op with
 | .add=>some (.int k (k.wrap (a+b)))
 | .sub=>some (.int k (k.wrap (a-b)))
 | .mul=>some (.int k (k.wrap (a*b)))
 | .quo=>if b=0 then none else some (.int k (k.wrap (a.tdiv b)))
 | .rem=>if b=0 then none else some (.int k (a.tmod b))
 | .and=>some (.int k (k.wrap (BitVec.ofInt k.bits a &&& BitVec.ofInt k.bits b).toNat))
 | .or=>some (.int k (k.wrap (BitVec.ofInt k.bits a ||| BitVec.ofInt k.bits b).toNat))
 | .xor=>some (.int k (k.wrap (BitVec.ofInt k.bits a ^^^ BitVec.ofInt k.bits b).toNat))
 | .andNot=>some (.int k (k.wrap (BitVec.ofInt k.bits a &&& ~~~BitVec.ofInt k.bits b).toNat))
 | .eql=>some (.bool (a==b))
 | .neq=>some (.bool (a != b))
 | .lss=>some (.bool (decide (a<b)))
 | .leq=>some (.bool (decide (a≤b)))
 | .gtr=>some (.bool (decide (a>b)))
 | .geq=>some (.bool (decide (a≥b)))
 | _=>none
def Az (op:BinOp)(k:IntKind)(a b:Int):Option Value:=
 if b<0 then none else
 match op with
 | .shl=>some (.int k (k.wrap (a*2 ^ (min b.toNat k.bits))))
 | .shr=>some (.int k (a.fdiv (2 ^ (min b.toNat k.bits))))
 | _=>none
section
variable {P : Program} {w : World}
variable {op : BinOp} {t : TypeId} {k : IntKind} {b : Int} {v : Value}
theorem Hw {a:Int}(h:Hd op k a b=some v):(binOp op t (.int k a) (.int k b)).run P w=.ok v w:=by
 cases op<;>simp only[Hd,ar,reduceCtorEq] at h <;>
  first
   | (subst h;simp[binOp,Op.intArith,Op.intCmp,Op.intBits];done)
   | (split at h
      · simp at h
      · rename_i c;simp only[ar] at h;subst h;simp[binOp,Op.intDiv,c])
variable {k' : IntKind}
theorem Ec {a:Int}(h:Az op k a b=some v):(binOp op t (.int k a) (.int k' b)).run P w=.ok v w:=by
 unfold Az at h
 split at h
 · simp at h
 · rename_i c
   cases op<;>simp only[ar,reduceCtorEq] at h<;>(subst h;simp[binOp,Op.shift,c])
theorem tQ {x y:Operand}{a:Int}:(eqGuard op t x y (.int k a) (.int k' b)).run P w=.ok () w:=by
 unfold eqGuard;split<;>simp
end
def OZ : BinOp→Bool
 | .shl=>true
 | .shr=>true
 | _=>false
def N1 (P:Program)(t:TypeId)(a b:Value):Option Bool:=
 match P.underlying t,a,b with
 | some (.int _),.int k x,.int k' y=>if k=k' then some (x==y) else none
 | some .bool,.bool x,.bool y=>some (x==y)
 | some .string,.string x,.string y=>some (x.data.toList==y.data.toList)
 | _,_,_=>none
variable {t : TypeId} {P : Program} {w : World} {d : Nat}
theorem Fy {a b:Value}{r:Bool}(h:N1 P t a b=some r):(Op.equalIn (d+1) t a b).run P w=.ok r w:=by
 unfold N1 at h
 split at h
 · rename_i c
   split at h<;>simp only[ar,reduceCtorEq] at h
   rename_i i;subst i;subst h
   exact run_equalIn_int w d t _ _ _ _ c
 · rename_i c
   simp only[ar] at h;subst h
   exact run_equalIn_bool' w d t _ _ c
 · rename_i c
   simp only[ar] at h;subst h
   rw[run_equalIn_string w d t _ _ c,ByteArray.toList_eq,ByteArray.toList_eq]
 · simp at h
def G0 (P : Program) : List Field → List AV → List AV → Option Bool
 | [], _, _ => some true
 | f :: fs, xs, ys => if f.name ≠ "_" ∧ Jp P f.type = some false then
    match nth xs f.offset, nth ys f.offset with
    | some (.sc a), some (.sc b) => match N1 P f.type a b with
      | some true => G0 P fs xs ys
      | some false => some false
      | none => none
    | _, _ => none
   else none
variable {g : Gh}
theorem Mu {xs ys:List AV}{c i:Array Value}(hx:fG g xs c)(p:fG g ys i):∀ {fs:List Field} {r:Bool},G0 P fs xs ys=some r →
   (Op.eqFields (d+1) c i fs).run P w=.ok r w:=by
 intro fs
 induction fs with
 | nil=>intro r h;simp only[G0,ar] at h;subst h;simp[Op.eqFields]
 | cons f fs q=>
   intro r h
   simp only[G0] at h
   split at h
   · rename_i s
     obtain⟨j,l⟩:=s
     split at h
     · rename_i a b n o
       rw[iB] at n o
       obtain⟨C,u,z⟩:=hx.get n
       obtain⟨D,A,B⟩:=p.get o
       cases z with | sc _=>?_
       cases B with | sc _=>?_
       have k1:(part f.type c f.offset).run P w=.ok a w:=by simp[part,ot l,u]
       have k2:(part f.type i f.offset).run P w=.ok b w:=by simp[part,ot l,A]
       split at h<;>try (simp at h;done)
       · rename_i e
         simp only[Op.eqFields,if_pos j,Sem.run_bind,k1,k2,Result.andThen_ok,Fy e]
         simpa using q h
       · rename_i e
         simp only[ar] at h;subst h
         simp only[Op.eqFields,if_pos j,Sem.run_bind,k1,k2,Result.andThen_ok,Fy e]
         simp
     · simp at h
   · simp at h
def L4 (op:BinOp)(x y:ByteArray):Option Value:=
 match op with
 | .eql=>some (.bool (x.data.toList==y.data.toList))
 | .neq=>some (.bool (!(x.data.toList==y.data.toList)))
 | .lss=>some (.bool (Op.bytesLess x.data.toList y.data.toList))
 | .leq=>some (.bool (Op.bytesLess x.data.toList y.data.toList||x.data.toList==y.data.toList))
 | .gtr=>some (.bool (!(Op.bytesLess x.data.toList y.data.toList||x.data.toList==y.data.toList)))
 | .geq=>some (.bool (!Op.bytesLess x.data.toList y.data.toList))
 | _=>none
def ni (op:BinOp)(r:Bool):Option AV:=
 match op with
 | .eql=>some (.sc (.bool r))
 | .neq=>some (.sc (.bool (!r)))
 | _=>none
def sQ (P:Program)(op:BinOp)(t:TypeId)(a b:AV):Option AV:=
 match a,b with
 | .sc (.int k x),.sc (.int k' y)=>match OZ op with
   | true=>match Az op k x y with
     | some v=>match EX v with
       | true=>some (.sc v)
       | false=>none
     | none=>none
   | false=>if k=k' then
       match Hd op k x y with
       | some v=>match EX v with
         | true=>some (.sc v)
         | false=>none
       | none=>none
     else none
 | .sc (.bool x),.sc (.bool y)=>match P.underlying t with
   | some .bool=>ni op (x==y)
   | _=>none
 | .sc (.string x),.sc (.string y)=>match L4 op x y with
   | some v=>match EX v with
     | true=>some (.sc v)
     | false=>none
   | none=>none
 | .ptr _ _ _,.sc (.pointer none)=>match P.underlying t with
   | some (.pointer _)=>ni op false
   | _=>none
 | .eV _,.sc (.pointer none)=>match P.underlying t with
   | some (.pointer _)=>ni op false
   | _=>none
 | .sc (.pointer none),.sc (.pointer none)=>match P.underlying t with
   | some (.pointer _)=>ni op true
   | _=>none
 | .fq _ _,.sc .nilIface=>match P.underlying t with
   | some (.interface _)=>ni op false
   | _=>none
 | .an,.an=>match P.underlying t with
   | some (.slice _)=>ni op true
   | _=>none
 | .aj _ _ _,.an=>match P.underlying t with
   | some (.slice _)=>ni op false
   | _=>none
 | .lit (_::_),.an=>match P.underlying t with
   | some (.slice _)=>ni op false
   | _=>none
 | .fn _ _ _,.sc .nilFunc=>match P.underlying t with
   | some (.func _ _ _)=>ni op false
   | _=>none
 | .pq _,.sc .nilFunc=>match P.underlying t with
   | some (.func _ _ _)=>ni op false
   | _=>none
 | .sc .nilFunc,.sc .nilFunc=>match P.underlying t with
   | some (.func _ _ _)=>ni op true
   | _=>none
 | .dJ _,.sc (.map none)=>match P.underlying t with
   | some (.map _ _)=>ni op false
   | _=>none
 | .sc (.map none),.sc (.map none)=>match P.underlying t with
   | some (.map _ _)=>ni op true
   | _=>none
 | .agg xs,.agg ys=>match P.underlying t with
   | some (.struct fs)=>match P.stoodInHeld t||P.eqGuardType P.depth t with
     | false=>match G0 P fs.toList xs ys with
       | some r=>ni op r
       | none=>none
     | true=>none
   | _=>none
 | _,_=>none
variable {op : BinOp} {x y : Value}
theorem fS {r:Bool}{v:AV}(h:ni op r=some v)(c:(Op.equal t x y).run P w=.ok r w)(h1:binOp .eql t x y=(do pure (.bool (←Op.equal t x y))))(h2:binOp .neq t x y=(do pure (.bool (!(←Op.equal t x y))))):∃ z,(binOp op t x y).run P w=.ok z w∧VR g v z:=by
 cases op<;>simp only[ni,ar,reduceCtorEq] at h
 · subst h;exact⟨_,by rw[h1];simp[c],.sc rfl⟩
 · subst h;exact⟨_,by rw[h2];simp[c],.sc rfl⟩
variable {e : TypeId}
theorem xj {a:Addr}(c:P.underlying t=some (.pointer e)):(Op.equalIn (d+1) t (.pointer (some a)) (.pointer none)).run P w=.ok false w:=by
 simp[Op.equalIn,ag c]
theorem Ed (c:P.underlying t=some (.pointer e)):(Op.equalIn (d+1) t (.pointer none) (.pointer none)).run P w=.ok true w:=by
 simp[Op.equalIn,ag c]
variable {v : Value}
theorem Ee {u:TypeId}{c:Array (String×TypeId)}(h:P.underlying t=some (.interface c)):(Op.equalIn (d+1) t (.iface u v) .nilIface).run P w=.ok false w:=by
 simp[Op.equalIn,ag h]
variable {xs : Array Value}
theorem yx {a b c}{f:Fn}{ys:Array Value}(h:P.underlying t=some (.func a b c)):(Op.equalIn (d+1) t (.func f xs ys) .nilFunc).run P w=.ok false w:=by
 simp[Op.equalIn,ag h]
theorem Mv {a b c}(h:P.underlying t=some (.func a b c)):(Op.equalIn (d+1) t .nilFunc .nilFunc).run P w=.ok true w:=by
 simp[Op.equalIn,ag h]
variable {m : Nat}
theorem Ef {a b:TypeId}(c:P.underlying t=some (.map a b)):(Op.equalIn (d+1) t (.map (some m)) (.map none)).run P w=.ok false w:=by
 simp[Op.equalIn,ag c]
theorem JJ {a b:TypeId}(c:P.underlying t=some (.map a b)):(Op.equalIn (d+1) t (.map none) (.map none)).run P w=.ok true w:=by
 simp[Op.equalIn,ag c]
theorem BS (c:P.underlying t=some (.slice e)):(Op.equalIn (d+1) t (.slice none 0 0) (.slice none 0 0)).run P w=.ok true w:=by
 simp[Op.equalIn,ag c]
theorem sD {a:Addr}{n:Nat}(c:P.underlying t=some (.slice e)):(Op.equalIn (d+1) t (.slice (some a) m n) (.slice none 0 0)).run P w=.ok false w:=by
 simp[Op.equalIn,ag c]
variable {a r : AV}
theorem F5 {ox oy:Operand}{b:AV}(h:sQ P op t a b=some r)(i:VR g a x)(j:VR g b y) :
   ∃ z,(eqGuard op t ox oy x y).run P w=.ok () w∧(binOp op t x y).run P w=.ok z w∧VR g r z:=by
 unfold sQ at h
 split at h
 · rename_i k m k' n
   cases i with | sc _=>?_
   cases j with | sc _=>?_
   split at h
   · split at h<;>try (simp at h;done)
     rename_i v e
     split at h<;>simp only[ar,reduceCtorEq] at h
     rename_i o;subst h
     exact⟨v,tQ,Ec e,.sc o⟩
   · split at h<;>try (simp at h;done)
     rename_i B;subst B
     split at h<;>try (simp at h;done)
     rename_i v e
     split at h<;>simp only[ar,reduceCtorEq] at h
     rename_i o;subst h
     exact⟨v,tQ,Hw e,.sc o⟩
 · cases i with | sc _=>?_
   cases j with | sc _=>?_
   split at h<;>try (simp at h;done)
   rename_i c
   obtain⟨z,p,q⟩:=fS (P:=P) (w:=w) (g:=g) h (run_equalIn_bool' w 9999 t _ _ c) (by simp[binOp]) (by simp[binOp])
   exact⟨z,by unfold eqGuard;split<;>simp,p,q⟩
 · cases i with | sc _=>?_
   cases j with | sc _=>?_
   split at h<;>try (simp at h;done)
   rename_i v e
   split at h<;>simp only[ar,reduceCtorEq] at h
   rename_i o;subst h
   refine⟨v,by unfold eqGuard;split<;>simp,?_,.sc o⟩
   cases op<;>simp only[L4,ar,reduceCtorEq] at e<;>(subst e;simp[binOp,Op.stringOp,ByteArray.toList_eq])
 · cases j with | sc _=>?_
   cases i with | ptr _=>?_
   split at h<;>try (simp at h;done)
   rename_i c
   have l:=fun a=>xj (P:=P) (w:=w) (d:=9999) (a:=a) c
   obtain⟨z,p,q⟩:=fS (P:=P) (w:=w) (g:=g) h (l _) (by simp[binOp]) (by simp[binOp])
   exact⟨z,by unfold eqGuard;split<;>simp,p,q⟩
 · cases j with | sc _=>?_
   cases i with | eV _ _ _=>?_
   split at h<;>try (simp at h;done)
   rename_i c
   have l:=fun a=>xj (P:=P) (w:=w) (d:=9999) (a:=a) c
   obtain⟨z,p,q⟩:=fS (P:=P) (w:=w) (g:=g) h (l _) (by simp[binOp]) (by simp[binOp])
   exact⟨z,by unfold eqGuard;split<;>simp,p,q⟩
 · cases j with | sc _=>?_
   cases i with | sc _=>?_
   split at h<;>try (simp at h;done)
   rename_i c
   have l:=Ed (P:=P) (w:=w) (d:=9999) c
   obtain⟨z,p,q⟩:=fS (P:=P) (w:=w) (g:=g) h l (by simp[binOp]) (by simp[binOp])
   exact⟨z,by unfold eqGuard;split<;>simp,p,q⟩
 · cases j with | sc _=>?_
   cases i with | fq _=>?_
   split at h<;>try (simp at h;done)
   rename_i c
   have l:=fun u v=>Ee (P:=P) (w:=w) (d:=9999) (u:=u) (v:=v) c
   obtain⟨z,p,q⟩:=fS (P:=P) (w:=w) (g:=g) h (l _ _) (by simp[binOp]) (by simp[binOp])
   exact⟨z,by unfold eqGuard;split<;>simp,p,q⟩
 · cases i with | an=>?_
   cases j with | an=>?_
   split at h<;>try (simp at h;done)
   rename_i c
   have l:=BS (P:=P) (w:=w) (d:=9999) c
   obtain⟨z,p,q⟩:=fS (P:=P) (w:=w) (g:=g) h l (by simp[binOp]) (by simp[binOp])
   exact⟨z,by unfold eqGuard;split<;>simp,p,q⟩
 · cases j with | an=>?_
   split at h<;>try (simp at h;done)
   rename_i c
   have l:=fun a m n=>sD (P:=P) (w:=w) (d:=9999) (a:=a) (m:=m) (n:=n) c
   cases i with
   | aj _ _ _=>
     obtain⟨z,p,q⟩:=fS (P:=P) (w:=w) (g:=g) h (l _ _ _) (by simp[binOp]) (by simp[binOp])
     exact⟨z,by unfold eqGuard;split<;>simp,p,q⟩
   | ga=>
     obtain⟨z,p,q⟩:=fS (P:=P) (w:=w) (g:=g) h (l _ _ _) (by simp[binOp]) (by simp[binOp])
     exact⟨z,by unfold eqGuard;split<;>simp,p,q⟩
 · cases j with | an=>?_
   split at h<;>try (simp at h;done)
   rename_i c
   have l:=fun a m n=>sD (P:=P) (w:=w) (d:=9999) (a:=a) (m:=m) (n:=n) c
   cases i with
   | lit _ _ _ _ _=>
     obtain⟨z,p,q⟩:=fS (P:=P) (w:=w) (g:=g) h (l _ _ _) (by simp[binOp]) (by simp[binOp])
     exact⟨z,by unfold eqGuard;split<;>simp,p,q⟩
 · cases j with | sc _=>?_
   cases i with | fn _ _ _ _=>?_
   split at h<;>try (simp at h;done)
   rename_i c
   obtain⟨z,p,q⟩:=fS (P:=P) (w:=w) (g:=g) h (yx (d:=9999) c) (by simp[binOp]) (by simp[binOp])
   exact⟨z,by unfold eqGuard;split<;>simp,p,q⟩
 · cases j with | sc _=>?_
   cases i with | pq _=>?_
   split at h<;>try (simp at h;done)
   rename_i c
   obtain⟨z,p,q⟩:=fS (P:=P) (w:=w) (g:=g) h (yx (d:=9999) c) (by simp[binOp]) (by simp[binOp])
   exact⟨z,by unfold eqGuard;split<;>simp,p,q⟩
 · cases j with | sc _=>?_
   cases i with | sc _=>?_
   split at h<;>try (simp at h;done)
   rename_i c
   obtain⟨z,p,q⟩:=fS (P:=P) (w:=w) (g:=g) h (Mv (d:=9999) c) (by simp[binOp]) (by simp[binOp])
   exact⟨z,by unfold eqGuard;split<;>simp,p,q⟩
 · cases j with | sc _=>?_
   cases i with | dJ _=>?_
   split at h<;>try (simp at h;done)
   rename_i c
   obtain⟨z,p,q⟩:=fS (P:=P) (w:=w) (g:=g) h (Ef (d:=9999) c) (by simp[binOp]) (by simp[binOp])
   exact⟨z,by unfold eqGuard;split<;>simp,p,q⟩
 · cases j with | sc _=>?_
   cases i with | sc _=>?_
   split at h<;>try (simp at h;done)
   rename_i c
   obtain⟨z,p,q⟩:=fS (P:=P) (w:=w) (g:=g) h (JJ (d:=9999) c) (by simp[binOp]) (by simp[binOp])
   exact⟨z,by unfold eqGuard;split<;>simp,p,q⟩
 · rename_i xs ys
   cases i with | agg l1 h1=>?_
   rename_i C
   cases j with | agg l2 h2=>?_
   rename_i D
   split at h<;>try (simp at h;done)
   rename_i fs c
   split at h<;>try (simp at h;done)
   rename_i s
   rw[Bool.or_eq_false_iff] at s
   split at h<;>try (simp at h;done)
   rename_i r e
   have A:P.fieldsOf t=fs:=by simp[Program.fieldsOf,c]
   have l:(Op.equal t (.agg C) (.agg D)).run P w=.ok r w:=by
     simp only[Op.equal,Op.maxDepth]
     rw[run_equalIn_struct (P:=P) w 9999 t _ _ (by rw[A];exact c) s.1,A]
     exact Mu (d:=9998) ⟨l1,h1⟩ ⟨l2,h2⟩ e
   obtain⟨z,p,q⟩:=fS (P:=P) (w:=w) (g:=g) h l (by simp[binOp]) (by simp[binOp])
   exact⟨z,run_eqGuard_agg w op t ox oy _ _ s.2,p,q⟩
 · simp at h
def K2 (op:UnOp)(a:AV):Option AV:=
 match op,a with
 | .not,.sc (.bool b)=>some (.sc (.bool (!b)))
 | .neg,.sc (.int k n)=>some (.sc (.int k (k.wrap (0-n))))
 | _,_=>none
theorem Hx {op:UnOp}(h:K2 op a=some r)(c:VR g a x):∃ z,(Op.unary op x).run P w=.ok z w∧VR g r z:=by
 unfold K2 at h
 split at h<;>simp only[ar,reduceCtorEq] at h
 · subst h;cases c with | sc _=>exact⟨_,by simp[Op.unary],.sc rfl⟩
 · subst h;cases c with | sc _=>exact⟨_,by simp[Op.unary,Op.intArith],.sc rfl⟩
def As (P:Program)(c h:TypeId)(a:AV):Option AV:=
 match P.underlying c,P.underlying h,a with
 | some (.int _),some (.int k),.sc (.int _ n)=>some (.sc (.int k (k.wrap n)))
 | _,_,_=>none
theorem Eg {c i:TypeId}(h:As P c i a=some r)(j:VR g a x):∃ z,(convert c i x).run P w=.ok z w∧VR g r z:=by
 unfold As at h
 split at h<;>simp only[ar,reduceCtorEq] at h
 rename_i h1 h2
 subst h;cases j with | sc _=>exact⟨_,by simp[convert,ag h1,ag h2,Conv.intToInt],.sc rfl⟩
def Au (P:Program)(t:TypeId)(cs:List AV)(off:Nat):Option AV:=
 match Jp P t with
 | some true=>match pT P t with
   | some n=>match Nat.ble (off+n) cs.length with
     | true=>some (.agg ((cs.drop off).take n))
     | false=>none
   | none=>none
 | some false=>nth cs off
 | none=>none
theorem tE {cs:List AV}{off:Nat}(h:Au P t cs off=some r)(j:fG g cs xs) :
   ∃ z,(part t xs off).run P w=.ok z w∧VR g r z:=by
 unfold Au at h
 split at h
 · rename_i l
   split at h<;>try (simp at h;done)
   rename_i n o
   split at h<;>simp only[ar,reduceCtorEq] at h
   rename_i c
   have c:=eL c
   subst h
   refine⟨.agg (xs.extract off (off+n)),by simp[part,ot l,run_sizeOf o],.agg ?_ ?_⟩
   · have:=j.1;simp;omega
   · intro k a x e i
     rw[List.getElem?_take] at e
     split at e
     · rw[List.getElem?_drop] at e
       rw[Array.getElem?_extract] at i
       split at i
       · exact j.2 _ a x e i
       · simp at i
     · simp at e
 · rename_i l
   rw[iB] at h
   obtain⟨x,e,p⟩:=j.get h
   exact⟨x,by simp[part,ot l,e],p⟩
 · simp at h
def zO (P:Program)(xt:TypeId)(a:AV)(f:Nat):Option AV:=
 match P.underlying xt,a with
 | some (.struct fs),.agg cs=>match nth fs.toList f with
   | some d=>Au P d.type cs d.offset
   | none=>none
 | _,_=>none
variable {f : Nat}
theorem BT {xt:TypeId}(h:zO P xt a f=some r)(j:VR g a x):∃ z,(Instr.field xt x f).run P w=.ok z w∧VR g r z:=by
 unfold zO at h
 split at h<;>try (simp at h;done)
 rename_i fs cs l
 split at h<;>try (simp at h;done)
 rename_i d i
 rw[iB] at i
 have c:fs[f]? = some d:=by simpa using i
 cases j with
 | agg n hh=>
   obtain⟨z,e,o⟩:=tE (P:=P) (w:=w) h ⟨n,hh⟩
   exact⟨z,by simp[Instr.field,ag l,c,asAgg,e],o⟩
def sl (P:Program)(s:TypeId)(a:AV)(f:Nat):Option AV:=
 match P.underlying s with
 | some (.struct fs)=>match nth fs.toList f with
   | some d=>match pT P d.type with
     | some (_+1)=>match a with
       | .ptr id i j=>some (.ptr id i (j+d.offset))
       | .eV cs=>match Nat.ble d.offset cs.length with
         | true=>some (.eV (cs.drop d.offset))
         | false=>none
       | _=>none
     | _=>none
   | none=>none
 | _=>none
theorem xy {s:TypeId}(h:sl P s a f=some r)(l:VR g a x):∃ z,(Instr.fieldAt s x f).run P w=.ok z w∧VR g r z:=by
 unfold sl at h
 split at h<;>try (simp at h;done)
 rename_i fs q
 split at h<;>try (simp at h;done)
 rename_i d p
 rw[iB] at p
 have i:fs[f]? = some d:=by simpa using p
 split at h<;>try (simp at h;done)
 rename_i n u
 have key:∀ b o,(Instr.fieldAt s (.pointer (some ⟨b,o,none⟩)) f).run P w=.ok (.pointer (some ⟨b,o+d.offset,none⟩)) w:=by
   intro b o
   simp[Instr.fieldAt,ag q,i,Instr.sureAddr,fieldPlace,run_sizeOf u,Addr.nv]
 split at h
 · simp only[ar] at h;subst h
   cases l with
   | ptr A=>exact⟨_,key _ _,by rw[Nat.add_assoc];exact .ptr A⟩
 · split at h<;>simp only[ar,reduceCtorEq] at h
   rename_i c
   have c:=eL c
   subst h
   cases l with
   | eV B D hh=>
     refine⟨_,key _ _,.eV B (by simp;omega) ?_⟩
     intro j a y e C
     rw[List.getElem?_drop] at e
     exact hh _ a y e (by rw[←C];congr 1;omega)
 · simp at h
def dG (P:Program)(S:af)(t:TypeId)(a c:AV):Option AV:=
 match c with
 | .sc (.int _ (.ofNat k))=>match P.underlying t with
   | some (.slice el)=>match pT P el with
     | some n=>match a with
       | .aj id off len=>match Nat.ble (k+1) len with
         | true=>match S.get id with
           | some (.arr sz _)=>match Nat.beq sz n with
             | true=>some (.ptr id (off+k) 0)
             | false=>none
           | _=>none
         | false=>none
       | .lit es=>match nth es k with
         | some e=>match Nat.beq e.cells.length n with
           | true=>some (.eV e.cells)
           | false=>none
         | none=>none
       | _=>none
     | none=>none
   | some (.array len el)=>match pT P el with
     | some n=>match Nat.ble (k+1) len with
       | true=>match a with
         | .ptr id i j=>some (.ptr id i (j+k*n))
         | .eV cs=>match Nat.ble (k*n) cs.length with
           | true=>some (.eV (cs.drop (k*n)))
           | false=>none
         | _=>none
       | false=>none
     | none=>none
   | _=>none
 | _=>none
theorem su {S:af}(hi:Inv S g w){H:AV}(h:dG P S t a H=some r)(A:VR g a x)(hx:VR g H y) :
   ∃ z,(Instr.indexAt t x y).run P w=.ok z w∧VR g r z:=by
 unfold dG at h
 split at h<;>try (simp at h;done)
 rename_i I k
 cases hx with | sc _=>?_
 split at h<;>try (simp at h;done)
 · rename_i el D
   split at h<;>try (simp at h;done)
   rename_i n E
   have key:∀ b o len cap,k<len→(Instr.indexAt t (.slice (some ⟨b,o,none⟩) len cap) (.int I (.ofNat k))).run P w=.ok (.pointer (some ⟨b,o+k*n,none⟩)) w:=by
     intro b o len cap s
     simp only[Instr.indexAt,asIntOf,Sem.run_bind,Sem.run_pure,Result.andThen_ok,ag D]
     rw[if_pos (by constructor<;>simp;omega)]
     simp[run_sizeOf E,Addr.nv]
   split at h
   · rename_i id off len
     split at h<;>try (simp at h;done)
     rename_i s
     have s:=eL s
     split at h<;>try (simp at h;done)
     rename_i sz es M
     split at h<;>simp only[ar,reduceCtorEq] at h
     rename_i i
     have i:=jK i
     subst h
     cases A with
     | ga=>omega
     | aj B U J=>
       rename_i cap l
       obtain⟨l', F,V,N⟩:=hi.ob _ _ M
       rw[B] at F;simp only[ar] at F;subst F
       obtain⟨c,W,X,Y,O,Z,p5,p6⟩:=N
       refine⟨_,key _ _ _ _ (by omega),?_⟩
       have:l.base+off*l.sz+k*n=l.base+(off+k)*l.sz+0:=by rw[O,i,Nat.add_mul];omega
       exact this ▸ .ptr B
   · rename_i es
     split at h<;>try (simp at h;done)
     rename_i e C
     rw[iB] at C
     have p:k<es.length:=(List.getElem?_eq_some_iff.1 C).1
     split at h<;>simp only[ar,reduceCtorEq] at h
     rename_i i
     have i:=jK i
     subst h
     cases A with
     | lit G Q J L hh=>
       rename_i b o sz cap c
       have K:=Q e (tl C)
       refine⟨_,key _ _ _ _ p,.eV G ?_ ?_⟩
       · have:k*sz+sz≤es.length*sz:=by
          have:(k+1)*sz≤es.length*sz:=u9 _ p
          rw[Nat.succ_mul] at this;exact this
         rw[i,←i,K];omega
       · intro j a z q R
         exact hh k j e a z C q (by rw[←R,←i,K])
     | gG=>simp at p
   · simp at h
 · rename_i len el D
   split at h<;>try (simp at h;done)
   rename_i n E
   split at h<;>try (simp at h;done)
   rename_i s
   have s:=eL s
   have key:∀ b o,(Instr.indexAt t (.pointer (some ⟨b,o,none⟩)) (.int I (.ofNat k))).run P w=.ok (.pointer (some ⟨b,o+k*n,none⟩)) w:=by
     intro b o
     simp only[Instr.indexAt,asIntOf,Sem.run_bind,Sem.run_pure,Result.andThen_ok,ag D,Instr.sureAddr]
     rw[if_pos (by constructor<;>simp;omega)]
     simp[run_sizeOf E,Addr.nv]
   split at h
   · simp only[ar] at h;subst h
     cases A with
     | ptr B=>exact⟨_,key _ _,by rw[Nat.add_assoc];exact .ptr B⟩
   · split at h<;>simp only[ar,reduceCtorEq] at h
     rename_i u
     have u:=eL u
     subst h
     cases A with
     | eV G J hh=>
       refine⟨_,key _ _,.eV G (by simp;omega) ?_⟩
       intro j a y e T
       rw[List.getElem?_drop] at e
       exact hh _ a y e (by rw[←T];congr 1;omega)
   · simp at h
end
end Go.Eng
namespace Go.Eng
noncomputable section
def tK : AV→Option Nat
 | .sc (.int _ (.ofNat k))=>some k
 | _=>none
variable {g : Gh} {a : AV} {x : Value}
theorem gJ {k:Nat}(h:tK a=some k)(b:VR g a x):∃ c,x=.int c (.ofNat k):=by
 unfold tK at h
 split at h<;>simp only[ar,reduceCtorEq] at h
 subst h;cases b with | sc _=>exact⟨_,rfl⟩
def By (d:Nat):Option AV→Option Nat
 | none=>some d
 | some a=>tK a
def QV (s:ByteArray)(l h:Nat):ByteArray:=⟨((s.data.toList.take h).drop l).toArray⟩
theorem O0 (s:ByteArray)(l h:Nat):QV s l h=s.extract l h:=by
 apply ByteArray.ext
 rw[ByteArray.data_extract]
 apply Array.ext'
 simp[QV,List.drop_take]
def LG (a:AV)(lo hi:Option AV):Option AV:=
 match a with
 | .sc (.string s)=>match By 0 lo,By s.size hi with
   | some l,some h=>match Nat.ble l h&&Nat.ble h s.size with
     | true=>some (.sc (.string (QV s l h)))
     | false=>none
   | _,_=>none
 | _=>none
def He (S:af)(id off l h n:Nat):Option AV:=
 match S.get id with
 | some (.arr sz es)=>match Nat.beq sz n&&Nat.ble l h&&Nat.ble 1 n&&Nat.ble (off+h) es.length with
   | true=>some (.aj id (off+l) (h-l))
   | false=>none
 | _=>none
def kU (P:Program)(S:af)(t:TypeId)(a:AV)(lo hi:Option AV):Option AV:=
 match P.underlying t with
 | some (.slice el)=>match pT P el,a with
   | some n,.aj id off len=>match By 0 lo,By len hi with
     | some l,some h=>match Nat.ble l h&&Nat.ble h len with
       | true=>match S.get id with
         | some (.arr sz _)=>match Nat.beq sz n with
           | true=>some (.aj id (off+l) (h-l))
           | false=>none
         | _=>none
       | false=>He S id off l h n
     | _,_=>none
   | some n,.lit es=>match By 0 lo,By es.length hi with
     | some l,some h=>match Nat.ble l h&&Nat.ble h es.length&&es.all (fun e=>Nat.beq e.cells.length n) with
       | true=>some (.lit ((es.take h).drop l))
       | false=>none
     | _,_=>none
   | some _,.an=>match By 0 lo,By 0 hi with
     | some 0,some 0=>some .an
     | _,_=>none
   | some _,.eG=>match By 0 lo,By 0 hi with
     | some 0,some 0=>some .eG
     | _,_=>none
   | _,_=>none
 | some .string=>LG a lo hi
 | _=>none
variable {P : Program} {w : World}
theorem run_sliceBound {k:IntKind}{n y:Nat}{c:BoundsCode}(h:n≤y):(Instr.sliceBound (.int k (.ofNat n)) y c).run P w=.ok n w:=by
 simp only[Instr.sliceBound,asIntOf,Sem.run_bind,Sem.run_pure,Result.andThen_ok]
 rw[if_pos (by constructor<;>simp;omega)]
 simp
variable {h : Nat} {lo hi : Option AV} {lx hx : Option Value}
theorem tR {b:Bool}{len cap l:Nat}(d:By 0 lo=some l)(hh:By len hi=some h)(h1:l≤h)(h2:h≤cap)(f:∀ a x,lo=some a→lx=some x→VR g a x)(i:∀ a x,hi=some a→hx=some x→VR g a x)(el:lo.isSome=lx.isSome)(e:hi.isSome=hx.isSome) :
  (Instr.sliceBounds b len cap lx hx none).run P w=.ok (l,h,cap) w:=by
 have j:(hx=none∧len=h)∨∃ c,hx=some (.int c (.ofNat h)):=by
  cases hi with
  | none=>
    cases hx with
    | none=>simp only[By,ar] at hh;exact .inl ⟨rfl,hh⟩
    | some x=>simp at e
  | some a=>
    cases hx with
    | none=>simp at e
    | some x=>obtain⟨c,rfl⟩:=gJ hh (i a x rfl rfl);exact .inr ⟨c,rfl⟩
 have k:(lx=none∧0=l)∨∃ c,lx=some (.int c (.ofNat l)):=by
  cases lo with
  | none=>
    cases lx with
    | none=>simp only[By,ar] at d;exact .inl ⟨rfl,d⟩
    | some x=>simp at el
  | some a=>
    cases lx with
    | none=>simp at el
    | some x=>obtain⟨c,rfl⟩:=gJ d (f a x rfl rfl);exact .inr ⟨c,rfl⟩
 rcases j with⟨rfl,rfl⟩ | ⟨c,rfl⟩<;>rcases k with⟨rfl,rfl⟩ | ⟨m,rfl⟩ <;>
  simp only[Instr.sliceBounds,Sem.run_bind,Sem.run_pure,Result.andThen_ok,run_sliceBound h1,run_sliceBound h2]
variable {t : TypeId} {r : AV}
theorem F6 (c:P.underlying t=some .string)(h:LG a lo hi=some r)(d:VR g a x)(e:∀ a x,lo=some a→lx=some x→VR g a x)(f:∀ a x,hi=some a→hx=some x→VR g a x)(el:lo.isSome=lx.isSome)(i:hi.isSome=hx.isSome) :
   ∃ z,(Instr.sliceAt t x lx hx none).run P w=.ok z w∧VR g r z:=by
 unfold LG at h
 split at h<;>try (simp at h;done)
 rename_i s
 split at h<;>try (simp at h;done)
 rename_i l hh j k
 split at h<;>simp only[ar,reduceCtorEq] at h
 rename_i b
 simp only[Bool.and_eq_true] at b
 subst h
 cases d with
 | sc _=>
   refine⟨.string (s.extract l hh),?_,by rw[O0];exact .sc rfl⟩
   simp only[Instr.sliceAt,Sem.run_bind,ag c,Result.andThen_ok,Instr.slice,Option.isSome_none,Bool.false_eq_true,if_false,Sem.run_pure]
   rw[tR j k (eL b.1) (eL b.2) e f el i]
   simp
theorem BU {S:af}(Q:Inv S g w)(h:kU P S t a lo hi=some r)(E:VR g a x)(V:∀ a x,lo=some a→lx=some x→VR g a x)(W:∀ a x,hi=some a→hx=some x→VR g a x)(el:lo.isSome=lx.isSome)(X:hi.isSome=hx.isSome) :
   ∃ z,(Instr.sliceAt t x lx hx none).run P w=.ok z w∧VR g r z:=by
 unfold kU at h
 split at h
 case h_2 L=>exact F6 L h E V W el X
 case h_3=>simp at h
 rename_i R L
 have key:∀(b:Option Addr) (len cap l hh n:Nat),pT P R=some n→By 0 lo=some l→By len hi=some hh→l≤hh→hh≤cap →
     (Instr.sliceAt t (.slice b len cap) lx hx none).run P w=.ok (.slice (if cap=l then b else b.map (·.add (l*n))) (hh-l) (cap-l)) w:=by
   intro b len cap l hh n q s p e3 e4
   simp only[Instr.sliceAt,Sem.run_bind,ag L,Result.andThen_ok,Instr.slice]
   rw[tR s p e3 e4 V W el X]
   simp[run_sizeOf q]
 split at h<;>try (simp at h;done)
 · rename_i n id off len q
   split at h<;>try (simp at h;done)
   rename_i l hh s p
   have fin:∀(sz:Nat) (es:List AV),S.get id=some (.arr sz es)→sz=n→l≤hh→(hh≤len∨(1≤n∧off+hh≤es.length))→r=.aj id (off+l) (hh-l) →
       ∃ z,(Instr.sliceAt t x lx hx none).run P w=.ok z w∧VR g r z:=by
     intro sz es F d c1 c2 M
     subst M
     obtain⟨Y,C,q2,q3⟩:=Q.ob _ _ F
     obtain⟨c,t', p1,p2,N,p4,p5,p6⟩:=q3
     have v:1≤n∧off+hh≤es.length→Y.base+(off+hh)*n≤Y.bz:=by
       intro k
       have:(off+hh)*n≤es.length*n:=u9 _ k.2
       rw[←p2];rw[d] at p4;omega
     cases E with
     | ga D u=>
       rw[D] at C;simp only[ar] at C;subst C
       have T:hh=0:=by
         rcases c2 with k | k
         · omega
         · have h1:=v k
           rw[N,d] at u
           rw[Nat.add_mul] at h1
           have h2:hh*1≤hh*n:=Nat.mul_le_mul_left _ k.1
           omega
       have:l=0:=by omega
       subst this;subst T
       refine⟨_,key _ 0 0 0 0 n q s p (Nat.le_refl _) (Nat.le_refl _),?_⟩
       simp only[if_true,Nat.sub_zero]
       exact .ga D u
     | aj D H I=>
       rename_i cap J
       rw[D] at C;simp only[ar] at C;subst C
       have U:hh≤cap:=by
         rcases c2 with k | k
         · omega
         · have h1:=v k
           rw[N,d] at I
           have h2:(off+hh)*n≤(off+cap)*n:=by omega
           have:=Nat.le_of_mul_le_mul_right h2 k.1
           omega
       refine⟨_,key _ len cap l hh n q s p c1 U,?_⟩
       by_cases A:cap=l
       · rw[if_pos A]
         have z1:hh-l=0:=by omega
         have z2:cap-l=0:=by omega
         rw[z1,z2];exact .ga D (by rw[←A];exact I)
       · rw[if_neg A]
         simp only[Option.map_some,Addr.nv]
         have:J.base+off*J.sz+l*n=J.base+(off+l)*J.sz:=by rw[N,d,Nat.add_mul];omega
         rw[this]
         exact .aj D (by omega) (by rw[show off+l+(cap-l)=off+cap from by omega];exact I)
   split at h
   · rename_i m
     simp only[Bool.and_eq_true] at m
     split at h<;>try (simp at h;done)
     rename_i sz es F
     split at h<;>simp only[ar,reduceCtorEq] at h
     rename_i d
     exact fin sz es F (jK d) (eL m.1) (.inl (eL m.2)) h.symm
   · unfold He at h
     split at h<;>try (simp at h;done)
     rename_i sz es F
     split at h<;>simp only[ar,reduceCtorEq] at h
     rename_i m
     simp only[Bool.and_eq_true] at m
     exact fin sz es F (jK m.1.1.1) (eL m.1.1.2) (.inr ⟨eL m.1.2,eL m.2⟩) h.symm
 · rename_i n es q
   split at h<;>try (simp at h;done)
   rename_i l hh s p
   split at h<;>simp only[ar,reduceCtorEq] at h
   rename_i m
   simp only[Bool.and_eq_true] at m
   have c1:=eL m.1.1
   have c2:=eL m.1.2
   have c3:=List.all_eq_true.1 m.2
   subst h
   have f:((es.take hh).drop l).length=hh-l:=by simp;omega
   cases E with
   | gG=>
     simp only[List.length_nil] at p c2
     rename_i b cap
     have u:hh=0:=by omega
     have lz:l=0:=by omega
     subst u;subst lz
     exact⟨_,key _ 0 cap 0 0 n q s p (Nat.le_refl _) (Nat.zero_le _),by simp;exact .gG⟩
   | lit M Z I H B=>
     rename_i b o sz cap c
     refine⟨_,key _ es.length cap l hh n q s p c1 (by omega),?_⟩
     by_cases u:(es.take hh).drop l=[]
     · rw[u]
       have:hh-l=0:=by rw[←f,u];rfl
       rw[this];exact .gG
     · have hpos:l<hh:=by
         rcases Nat.lt_or_ge l hh with k | k
         · exact k
         · exfalso;apply u;apply List.eq_nil_of_length_eq_zero;rw[f];omega
       have d:n=sz:=by
         obtain⟨e,O⟩:=List.exists_mem_of_ne_nil _ u
         have G:e∈es:=List.mem_of_mem_take (List.mem_of_mem_drop O)
         rw[←Z e G,jK (c3 e G)]
       subst d
       rw[if_neg (by omega)]
       simp only[Option.map_some,Addr.nv]
       rw[show hh-l=((es.take hh).drop l).length from f.symm]
       refine .lit M (sz:=n) ?_ ?_ ?_ ?_
       · intro e O;exact Z e (List.mem_of_mem_take (List.mem_of_mem_drop O))
       · rw[f]
         have:l*n+(hh-l)*n≤es.length*n:=by rw[←Nat.add_mul];exact u9 _ (by omega)
         omega
       · rw[f];omega
       · intro i j e aa y K f2 f3
         rw[List.getElem?_drop,List.getElem?_take] at K
         split at K
         · refine B (l+i) j e aa y K f2 ?_
           rw[←f3];congr 1;rw[Nat.add_mul];omega
         · simp at K
 · rename_i n q
   split at h<;>simp only[ar,reduceCtorEq] at h
   rename_i s p
   subst h
   cases E with | an=>?_
   exact⟨_,key none 0 0 0 0 n q s p (Nat.le_refl _) (Nat.le_refl _),by simp;exact .an⟩
 · rename_i n q
   split at h<;>simp only[ar,reduceCtorEq] at h
   rename_i s p
   subst h
   cases E with | eG=>?_
   exact⟨_,key _ 0 0 0 0 n q s p (Nat.le_refl _) (Nat.le_refl _),by simp;exact .eG⟩
theorem Addr.BV (a:Addr):a.add 0=a:=by
 obtain⟨b,o,e⟩:=a
 cases e<;>simp[Addr.add]
def uk : AV→Nat→Option AV
 | .aj id off len,h=>match Nat.ble h len with
   | true=>some (.aj id off h)
   | false=>none
 | .lit es,h=>match Nat.ble h es.length with
   | true=>some (.lit (es.take h))
   | false=>none
 | .an,0=>some .an
 | .eG,0=>some .eG
 | _,_=>none
theorem yy (e:uk a h=some r)(l:VR g a x):∃ b n cap,x=.slice b n cap∧n≤cap∧h≤n∧VR g r (.slice b h cap):=by
 cases a with
 | aj id off len=>
   simp only[uk] at e
   cases d:Nat.ble h len with
   | false=>rw[d] at e;simp at e
   | true=>
     rw[d] at e;simp only[ar] at e
     have d:=eL d
     subst e
     cases l with
     | ga f q=>
       have:h=0:=by omega
       subst this
       exact⟨_,_,_,rfl,Nat.le_refl _,Nat.le_refl _,.ga f q⟩
     | aj f s p=>exact⟨_,_,_,rfl,s,d,.aj f (by omega) p⟩
 | lit es=>
   simp only[uk] at e
   cases d:Nat.ble h es.length with
   | false=>rw[d] at e;simp at e
   | true=>
     rw[d] at e;simp only[ar] at e
     have d:=eL d
     subst e
     cases l with
     | gG=>
       have:h=0:=by simpa using d
       subst this
       exact⟨_,_,_,rfl,Nat.zero_le _,Nat.le_refl _,by simpa using VR.gG⟩
     | lit u v p k hh=>
       rename_i b o sz cap c
       have f:(es.take h).length=h:=by simp;omega
       have key:=VR.lit (g:=g) (es:=es.take h) (cap:=cap) u (sz:=sz) (fun e y=>v e (List.mem_of_mem_take y)) (Nat.le_trans (Nat.add_le_add_left (u9 _ (by omega)) _) p) (by omega)
        (fun i j e a x m z A=>by
         rw[List.getElem?_take] at m
         split at m
         · exact hh i j e a x m z A
         · simp at m)
       rw[f] at key
       exact⟨_,_,_,rfl,k,d,key⟩
 | an=>
   cases h with
   | zero=>
     simp only[uk,ar] at e;subst e
     cases l with | an=>exact⟨_,_,_,rfl,Nat.le_refl _,Nat.le_refl _,.an⟩
   | succ h=>simp[uk] at e
 | eG=>
   cases h with
   | zero=>
     simp only[uk,ar] at e;subst e
     cases l with | eG=>exact⟨_,_,_,rfl,Nat.le_refl _,Nat.le_refl _,.eG⟩
   | succ h=>simp[uk] at e
 | _=>simp[uk] at e
def xP (P:Program)(t:TypeId)(a hi mx:AV):Option AV:=
 match P.underlying t with
 | some (.slice el)=>match pT P el,tK hi,tK mx with
   | some _,some h,some m=>match Nat.beq h m with
     | true=>match uk a h with
       | some r=>some (.clip r)
       | none=>none
     | false=>none
   | _,_,_=>none
 | _=>none
variable {mx : AV} {mxx : Value}
theorem Eh {hi:AV}{hx:Value}(h:xP P t a hi mx=some r)(f:VR g a x)(i:VR g hi hx)(j:VR g mx mxx) :
  ∃ z,(Instr.sliceAt t x none (some hx) (some mxx)).run P w=.ok z w∧VR g r z:=by
 unfold xP at h
 split at h<;>try (simp at h;done)
 rename_i u k
 split at h<;>try (simp at h;done)
 rename_i sz hh m d l o
 split at h<;>try (simp at h;done)
 rename_i p
 have c1:=jK p
 subst c1
 split at h<;>simp only[ar,reduceCtorEq] at h
 rename_i r q
 subst h
 obtain⟨b,n,cap,rfl,c,s,e⟩:=yy q f
 obtain⟨k1,rfl⟩:=gJ l i
 obtain⟨k2,rfl⟩:=gJ o j
 refine⟨.slice b hh hh,?_,.clip e⟩
 simp only[Instr.sliceAt,Sem.run_bind,ag k,Result.andThen_ok,Instr.slice,Instr.sliceBounds,Sem.run_pure,run_sliceBound (Nat.le_trans s c),run_sliceBound (Nat.le_refl hh),run_sizeOf d]
 cases b with
 | none=>simp
 | some b=>simp[Addr.BV]
def Iw (P:Program)(t:TypeId)(a lo hi mx:AV):Option AV:=
 match P.underlying t with
 | some (.slice el)=>match pT P el,tK lo,tK hi,tK mx with
   | some _,some l,some h,some m=>match Nat.ble l h&&Nat.ble h m,uk a m with
     | true,some _=>some .top
     | _,_=>none
   | _,_,_,_=>none
 | _=>none
theorem F7 {lo hi:AV}{lx hx:Value}(h:Iw P t a lo hi mx=some r)(f:VR g a x)(i:VR g lo lx)(j:VR g hi hx)(k:VR g mx mxx) :
  ∃ z,(Instr.sliceAt t x (some lx) (some hx) (some mxx)).run P w=.ok z w∧VR g r z:=by
 unfold Iw at h
 split at h<;>try (simp at h;done)
 rename_i y o
 split at h<;>try (simp at h;done)
 rename_i sz l hh m e p q s
 split at h<;>simp only[ar,reduceCtorEq] at h
 rename_i B d u
 simp only[Bool.and_eq_true] at d
 subst h
 obtain⟨b,n,cap,rfl,c,v,A⟩:=yy u f
 obtain⟨C,rfl⟩:=gJ p i
 obtain⟨k1,rfl⟩:=gJ q j
 obtain⟨k2,rfl⟩:=gJ s k
 refine⟨.slice (if m=l then b else b.map (·.add (l*sz))) (hh-l) (m-l),?_,.top⟩
 simp only[Instr.sliceAt,Sem.run_bind,ag o,Result.andThen_ok,Instr.slice,Instr.sliceBounds,Sem.run_pure,run_sliceBound (Nat.le_trans v c),run_sliceBound (eL d.2),run_sliceBound (eL d.1),run_sizeOf e]
end
end Go.Eng
namespace Go.Eng
noncomputable section
def K3 (v:Value):AV:=
 match EX v with
 | true=>.sc v
 | false=>match v with
   | .slice none 0 0=>.an
   | .func f ⟨[]⟩ ⟨[]⟩=>.fn f [] []
   | _=>.top
def abM (v:Value):AV:=
 match v with
 | .agg cs=>.agg (cs.toList.map K3)
 | .tuple a=>.bm (a.toList.map K3)
 | v=>K3 v
theorem vT (g:Gh)(v:Value):VR g (K3 v) v:=by
 unfold K3
 cases h:EX v with
 | true=>exact .sc h
 | false=>
   dsimp only
   split
   · exact .an
   · exact .fn rfl rfl (fun k a x e=>by simp at e) (fun k a x e=>by simp at e)
   · exact .top
theorem s5 (g:Gh)(v:Value):VR g (abM v) v:=by
 unfold abM
 split
 · rename_i cs
   refine .agg (by simp) fun k a x e b=>?_
   simp only[List.getElem?_map,Array.getElem?_toList,b,Option.map_some,ar] at e
   subst e;exact vT g x
 · rename_i cs
   refine .bm (by simp) fun k a x e b=>?_
   simp only[List.getElem?_map,Array.getElem?_toList,b,Option.map_some,ar] at e
   subst e;exact vT g x
 · exact vT g v
def iC (P:Program)(t:TypeId):Option AV:=
 match P.info? t with
 | some i=>match i.zero with
   | some z=>some (abM z)
   | none=>none
 | none=>none
variable {P : Program} {w : World} {g : Gh} {t : TypeId}
theorem jk {a:AV}(h:iC P t=some a):∃ z,(zeroValue t).run P w=.ok z w∧VR g a z:=by
 unfold iC at h
 split at h<;>try (simp at h;done)
 rename_i i hi
 split at h<;>simp only[ar,reduceCtorEq] at h
 rename_i z b
 subst h
 exact⟨z,by simp[zeroValue,cZ hi,b],s5 g z⟩
theorem fG.j5 {g:Gh}{l ys:List AV}{xs zs:Array Value}(h:fG g l xs)(d:fG g ys zs){n:Nat}(f:n+ys.length≤l.length):fG g (j5 l n ys) (Eng.j5 xs.toList n zs.toList).toArray:=by
 have h1:=h.1
 have h2:=d.1
 refine⟨by simp[fU,h1],fun k a x e b=>?_⟩
 rw[List.getElem?_toArray,ia _ _ _ (by simp;omega)] at b
 rw[ia _ _ _ f] at e
 rw[show zs.toList.length=ys.length from by simp[h2]] at b
 split at e
 · rename_i c;rw[if_pos c] at b;exact d.2 _ a x e (by simpa using b)
 · rename_i c;rw[if_neg c] at b;exact h.2 _ a x e (by simpa using b)
theorem CV (off:Nat):∀(l:List Value) (k:Nat) (c:Array Value),off+k+l.length≤c.size →
   (l.zipIdx k).foldl (fun cs (x:Value×Nat)=>cs.setIfInBounds (off+x.2) x.1) c=(j5 c.toList (off+k) l).toArray:=by
 intro l
 induction l with
 | nil=>intro k c _;simp[j5]
 | cons v l b=>
   intro k c a
   simp only[List.zipIdx_cons,List.foldl_cons]
   rw[b (k+1) _ (by simp at a ⊢;omega)]
   congr 1
   apply List.ext_getElem?
   intro i
   rw[ia _ _ _ (by simp at a ⊢;omega),ia _ _ _ (by simp at a ⊢;omega)]
   simp only[Array.toList_setIfInBounds,List.getElem?_set,List.length_cons,Array.length_toList]
   simp only[List.length_cons] at a
   by_cases hi:i=off+k
   · subst hi
     rw[if_neg (by omega),if_pos rfl,if_pos (by omega),if_pos (by omega)]
     simp
   · by_cases h2:off+(k+1)≤i∧i<off+(k+1)+l.length
     · rw[if_pos h2,if_pos (by omega),show i-(off+k)=(i-(off+(k+1)))+1 from by omega,List.getElem?_cons_succ]
     · rw[if_neg h2,if_neg (by omega),if_neg (by omega)]
def xQ (place:Nat→Option (Nat×Nat)):List AV→List (Nat×AV)→Option (List AV)
 | cs,[]=>some cs
 | cs,(i,v)::r=>match place i with
   | some (off,size)=>match Nat.beq v.cells.length size&&Nat.ble (off+v.cells.length) cs.length&&v.cells.all dj with
     | true=>xQ place (j5 cs off v.cells) r
     | false=>none
   | none=>none
inductive uu (g : Gh) : List (Nat × AV) → List (Nat × Value) → Prop
 | nil : uu g [] []
 | cons {i : Nat} {v : AV} {x : Value} {ps : List (Nat × AV)} {xs : List (Nat × Value)} (hv : VR g v x) (ht : uu g ps xs) : uu g ((i, v) :: ps) ((i, x) :: xs)
variable {ps : List (Nat × AV)} {xs : List (Nat × Value)}
theorem xk {place:Nat→Option (Nat×Nat)}(f:uu g ps xs):∀ {cs r:List AV} {c:Array Value},xQ place cs ps=some r→fG g cs c →
   ∃ c', Instr.fill place c xs=some c' ∧ fG g r c' := by
 induction f with
 | nil=>intro cs r c h d;simp only[xQ,ar] at h;subst h;exact⟨c,rfl,d⟩
 | cons j p k=>
   rename_i i v y ps xs
   intro cs r c h d
   simp only[xQ] at h
   split at h<;>try (simp at h;done)
   rename_i off size e
   split at h<;>try (simp at h;done)
   rename_i a
   simp only[Bool.and_eq_true] at a
   have q:=jK a.1.1
   have l:=eL a.1.2
   have b:=jP j a.2
   have k1:=b.1
   have k2:=d.1
   obtain⟨c', m,o⟩:=k (c:=(Eng.j5 c.toList off y.cells.toList).toArray) h (d.j5 b l)
   refine⟨c', ?_,o⟩
   simp only[Instr.fill,e]
   rw[if_neg (by simp;omega)]
   rw[←m]
   congr 1
   have:=CV off y.cells.toList 0 c (by simp;omega)
   rw[Nat.add_zero] at this
   rw[←this,←Array.foldl_toList]
   simp
def aco (P:Program)(t:TypeId):Option (Nat→Option (Nat×Nat)):=
 match P.underlying t with
 | some (.struct fs)=>some fun i=>match nth fs.toList i with
   | some f=>match pT P f.type with
     | some n=>some (f.offset,n)
     | none=>none
   | none=>none
 | some (.array _ el)=>match pT P el with
   | some n=>some fun i=>some (i*n,n)
   | none=>none
 | _=>none
def wM (P:Program):List Field→Bool
 | []=>true
 | f::fs=>match pT P f.type with
   | some _=>wM P fs
   | none=>false
def zP (P:Program)(t:TypeId)(ps:List (Nat×AV)):Option AV:=
 match iC P t with
 | some z=>match P.underlying t with
   | some (.struct fs)=>match wM P fs.toList&&z.cells.all dj with
     | true=>match xQ (fun i=>match nth fs.toList i with
         | some f=>match pT P f.type with
           | some n=>some (f.offset,n)
           | none=>none
         | none=>none) z.cells ps with
       | some cs=>some (.agg cs)
       | none=>none
     | false=>none
   | some (.array _ el)=>match pT P el with
     | some n=>match z.cells.all dj with
       | true=>match xQ (fun i=>some (i*n,n)) z.cells ps with
         | some cs=>some (.agg cs)
         | none=>none
       | false=>none
     | none=>none
   | _=>none
 | none=>none
theorem F8 : ∀ {fs:List Field},wM P fs=true→(fs.mapM fun f=>do pure (f.offset,←sizeOf f.type):Sem (List (Nat×Nat))).run P w=.ok (fs.map fun f=>(f.offset,(pT P f.type).getD 0)) w:=by
 intro fs
 induction fs with
 | nil=>intro _;simp
 | cons f fs b=>
   intro h
   simp only[wM] at h
   split at h<;>try (simp at h;done)
   rename_i n a
   simp only[List.mapM_cons,Sem.run_bind,run_sizeOf a,Result.andThen_ok,Sem.run_pure,b h,List.map_cons,a,Option.getD_some]
variable {r : AV}
theorem BW {xs:Array (Nat×Value)}(h:zP P t ps=some r)(s:uu g ps xs.toList) :
   ∃ z,(Instr.build t xs).run P w=.ok z w∧VR g r z:=by
 unfold zP at h
 split at h<;>try (simp at h;done)
 rename_i z u
 obtain⟨y,c,d⟩:=jk (P:=P) (w:=w) (g:=g) u
 split at h<;>try (simp at h;done)
 · rename_i fs p
   split at h<;>try (simp at h;done)
   rename_i e
   simp only[Bool.and_eq_true] at e
   split at h<;>simp only[ar,reduceCtorEq] at h
   rename_i cs j
   subst h
   have b:(fun i=>match nth fs.toList i with
       | some f=>match pT P f.type with
         | some n=>some (f.offset,n)
         | none=>none
       | none=>none)=fun i=>((fs.map fun f=>(f.offset,(pT P f.type).getD 0))[i]? : Option (Nat×Nat)):=by
    funext i
    rw[iB]
    simp only[Array.getElem?_toList,Array.getElem?_map]
    cases o:fs[i]? with
    | none=>rfl
    | some f=>
      simp only[Option.map_some]
      have hm:f∈fs.toList:=tl (by simpa using o:fs.toList[i]? = some f)
      have:∃ n,pT P f.type=some n:=by
       have:=e.1
       clear j d c u p o
       generalize fs.toList=l at this hm
       induction l with
       | nil=>simp at hm
       | cons a l v=>
         simp only[wM] at this
         split at this<;>try (simp at this;done)
         rename_i n k
         rcases List.mem_cons.1 hm with rfl | hm
         · exact⟨n,k⟩
         · exact v this hm
      obtain⟨n,k⟩:=this
      simp[k]
   rw[b] at j
   obtain⟨c', q,m⟩:=xk s j (jP d e.2)
   refine⟨.agg c', ?_,.agg m.1 m.2⟩
   simp only[Instr.build,Sem.run_bind,c,Result.andThen_ok,ag p]
   have hm:(fs.mapM fun f=>do pure (f.offset,←sizeOf f.type):Sem (Array (Nat×Nat))).run P w=.ok (fs.map fun f=>(f.offset,(pT P f.type).getD 0)) w:=by
    rw[Array.mapM_eq_mapM_toList]
    simp only[Sem.run_map,F8 e.1,Result.andThen_ok]
    congr 1
    apply Array.ext';simp
   rw[hm]
   simp only[Result.andThen_ok]
   rw[q]
   simp
 · rename_i len el p
   split at h<;>try (simp at h;done)
   rename_i n k
   split at h<;>try (simp at h;done)
   rename_i e
   split at h<;>simp only[ar,reduceCtorEq] at h
   rename_i cs j
   subst h
   obtain⟨c', q,m⟩:=xk s j (jP d e)
   refine⟨.agg c', ?_,.agg m.1 m.2⟩
   simp only[Instr.build,Sem.run_bind,c,Result.andThen_ok,ag p,run_sizeOf k]
   rw[q]
   simp
def CB (S:af)(v:AV):Option (AV×af):=
 match v.cells.all dj&&Nat.ble (S.nx+1) 8192&&Nat.ble S.lim S.nx with
 | true=>some (.ptr S.nx 0 0,S.add (.arr v.cells.length [v]))
 | false=>none
variable {S S' : af} {x : Value}
theorem yz (hi:Inv S g w){v:AV}(h:CB S v=some (r,S'))(f:VR g v x) :
   ∃ a w' g', (newVar t x).run P w=.ok a w' ∧ VR g' r (.pointer (some a))∧Inv S' g' w' ∧ Ext S g w S' g' w' := by
 unfold CB at h
 split at h<;>simp only[ar,iy,reduceCtorEq] at h
 rename_i c
 obtain⟨rfl,rfl⟩:=h
 simp only[Bool.and_eq_true] at c
 have c2:=eL c.1.2
 have c3:=eL c.2
 have b:=jP f c.1.1
 obtain ⟨k,m⟩:=hi.alloc (w' := w.alloc (.cells x.cells t)) (by omega) (o:=.arr v.cells.length [v]) (ob:=.cells x.cells t) (l:=⟨w.heap.size,0,v.cells.length,x.cells.size⟩) rfl
   ⟨x.cells,t,rfl,rfl,rfl,by simp[b.1],by simp,by
    intro i j e a y d p q
    cases i with
    | zero=>
      simp only[List.getElem?_cons_zero,ar] at d
      subst d
      exact b.2 j a y p (by simpa using q)
    | succ i=>simp at d⟩ rfl rfl ⟨rfl,Nat.le_refl _⟩ rfl c3
 refine⟨⟨w.heap.size,0,none⟩,_,_,?_,?_,k,m⟩
 · simp[newVar,newRow]
 · have:=VR.ptr (g:=g.add S.nx ⟨w.heap.size,0,v.cells.length,x.cells.size⟩) (id:=S.nx) (i:=0) (j:=0) (Gh.add_same _ _ _)
   simpa using this
def K4 : List AV→List (Nat×AV)→Option (List AV)
 | es,[]=>some es
 | es,(i,v)::r=>match nth es i with
   | some e=>match Nat.beq v.cells.length e.cells.length&&v.cells.all dj with
     | true=>K4 (es.set i v) r
     | false=>none
   | none=>none
def pw (g:Gh)(sz:Nat)(es:List AV)(c:Array Value):Prop:=
 es.length*sz≤c.size∧(∀ e,e∈es→e.cells.length=sz)∧∀(i j:Nat) (e a:AV) (y:Value),es[i]? = some e→e.cells[j]? = some a→c[i*sz+j]? = some y→VR g a y
theorem Hy {sz:Nat}(I:uu g ps xs):∀ {es r:List AV} {c:Array Value},K4 es ps=some r→pw g sz es c →
   ∃ c', Instr.fill (fun i=>some (i*sz,sz)) c xs=some c' ∧ pw g sz r c' ∧ c'.size=c.size∧r.length=es.length:=by
 induction I with
 | nil=>intro es r c h B;simp only[K4,ar] at h;subst h;exact⟨c,rfl,B,rfl,rfl⟩
 | cons J T K=>
   rename_i i v y ps xs
   intro es r c h B
   simp only[K4] at h
   split at h<;>try (simp at h;done)
   rename_i e C
   rw[iB] at C
   split at h<;>try (simp at h;done)
   rename_i D
   simp only[Bool.and_eq_true] at D
   have L:=jK D.1
   obtain⟨k1,k2,k3⟩:=B
   have d:=jP J D.2
   have f:v.cells.length=sz:=by rw[L];exact k2 e (tl C)
   have q:i<es.length:=(List.getElem?_eq_some_iff.1 C).1
   have G:i*sz+sz≤es.length*sz:=by
     have:(i+1)*sz≤es.length*sz:=u9 _ q
     rw[Nat.succ_mul] at this;exact this
   have k:y.cells.toList.length=sz:=by rw[←f,d.1];simp
   have s:pw g sz (es.set i v) (Eng.j5 c.toList (i*sz) y.cells.toList).toArray:=by
     refine⟨by simp[fU];exact k1,?_,?_⟩
     · intro M E
       rcases List.mem_or_eq_of_mem_set E with hm | hm
       · exact k2 M hm
       · subst hm;exact f
     · intro o j u a z b A p
       rw[List.getElem?_toArray,ia _ _ _ (by rw[k];simp;omega),k] at p
       rw[List.getElem?_set] at b
       by_cases l:i=o
       · subst l
         rw[if_pos rfl,if_pos q] at b
         simp only[ar] at b
         subst b
         have N:j<sz:=by rw[←f];exact(List.getElem?_eq_some_iff.1 A).1
         rw[if_pos (by omega),show i*sz+j-i*sz=j from by omega] at p
         exact d.2 j a z A (by simpa using p)
       · rw[if_neg l] at b
         have N:j<sz:=by rw[←k2 u (tl b)];exact(List.getElem?_eq_some_iff.1 A).1
         have F:¬ (i*sz≤o*sz+j∧o*sz+j<i*sz+sz):=by
          rintro⟨c1,c2⟩
          rcases Nat.lt_or_gt_of_ne l with m | m
          · have:(i+1)*sz≤o*sz:=u9 _ m
            rw[Nat.succ_mul] at this;omega
          · have:(o+1)*sz≤i*sz:=u9 _ m
            rw[Nat.succ_mul] at this;omega
         rw[if_neg F] at p
         exact k3 o j u a z b A (by simpa using p)
   obtain⟨c', O,u,Q,R⟩:=K (c:=(Eng.j5 c.toList (i*sz) y.cells.toList).toArray) h s
   refine⟨c', ?_,u,?_,?_⟩
   · simp only[Instr.fill]
     have H:=d.1
     rw[if_neg (by simp;omega)]
     rw[←O]
     congr 1
     have:=CV (i*sz) y.cells.toList 0 c (by simp;simp at k;omega)
     rw[Nat.add_zero] at this
     rw[←this,←Array.foldl_toList]
     simp
   · rw[Q];simp[fU]
   · rw[R];simp
theorem pw.alloc {S:af}{g:Gh}{w:World}(hi:Inv S g w){sz:Nat}{es:List AV}{c:Array Value}(h:pw g sz es c)(t:TypeId)(b:Ok S.nx)(d:S.lim≤S.nx) :
  Inv (S.add (.arr sz es)) (g.add S.nx ⟨w.heap.size,0,sz,c.size⟩) (w.alloc (.cells c t))∧Ext S g w (S.add (.arr sz es)) (g.add S.nx ⟨w.heap.size,0,sz,c.size⟩) (w.alloc (.cells c t)):=
 hi.alloc (w' := w.alloc (.cells c t)) b (o:=.arr sz es) (ob:=.cells c t) (l:=⟨w.heap.size,0,sz,c.size⟩) rfl
  ⟨c,t,rfl,rfl,rfl,by simpa using h.1,h.2.1,fun i j e a y f k m=>h.2.2 i j e a y f k (by simpa using m)⟩ rfl rfl ⟨rfl,Nat.le_refl _⟩ rfl d
variable {n : Nat}
theorem wY {z:AV}{b:Array Value}{m:Nat}(f:fG g z.cells b)(o:n≤m):pw g b.size (List.replicate n z) ((Array.range (m*b.size)).map fun i=>b[i%b.size]!):=by
 refine⟨by simp;exact u9 _ o,?_,?_⟩
 · intro e p;rw[(List.mem_replicate.1 p).2,f.1]
 · intro i j e a y d l c
   rw[List.getElem?_replicate] at d
   split at d<;>simp only[ar,reduceCtorEq] at d
   rename_i hi
   subst d
   have h:j<b.size:=by rw[←f.1];exact(List.getElem?_eq_some_iff.1 l).1
   simp only[Array.getElem?_map] at c
   have k:i*b.size+j<m*b.size:=by
    have:(i+1)*b.size≤m*b.size:=u9 _ (by omega)
    rw[Nat.succ_mul] at this;omega
   rw[Array.getElem?_range,if_pos k] at c
   simp only[Option.map_some,ar] at c
   have q:(i*b.size+j)%b.size=j:=by
    rw[Nat.mul_comm,Nat.mul_add_mod];exact Nat.mod_eq_of_lt h
   rw[q] at c
   refine f.2 j a y l ?_
   rw[←c,Bx h]
   simp[getElem!_pos,h]
def eW (S:af)(sz:Nat)(es:List AV):Option (AV×af):=
 match Nat.ble (S.nx+1) 8192&&Nat.ble S.lim S.nx with
 | true=>some (.aj S.nx 0 es.length,S.add (.arr sz es))
 | false=>none
def nD (P:Program)(S:af)(t:TypeId)(len:Nat)(ps:List (Nat×AV)):Option (AV×af):=
 match P.underlying t with
 | some (.slice el)=>match pT P el with
   | some (n+1)=>match Nat.ble (len*(n+1)) (2 ^ 24) with
     | true=>match iC P el with
       | some z=>match Nat.beq z.cells.length (n+1)&&z.cells.all dj with
         | true=>match K4 (List.replicate len z) ps with
           | some es=>eW S (n+1) es
           | none=>none
         | false=>none
       | none=>none
     | false=>none
   | _=>none
 | _=>none
theorem we (hi:Inv S g w){len:Nat}{xs:Array (Nat×Value)}(h:nD P S t len ps=some (r,S'))(v:uu g ps xs.toList) :
   ∃ z w' g', (Instr.buildSlice t len xs).run P w=.ok z w' ∧ VR g' r z∧Inv S' g' w' ∧ Ext S g w S' g' w' := by
 unfold nD at h
 split at h<;>try (simp at h;done)
 rename_i el y
 split at h<;>try (simp at h;done)
 rename_i n q
 simp only[Nat.succ_eq_add_one] at q h
 split at h<;>try (simp at h;done)
 rename_i b
 have b:=eL b
 split at h<;>try (simp at h;done)
 rename_i z A
 split at h<;>try (simp at h;done)
 rename_i f
 simp only[Bool.and_eq_true] at f
 have k:=jK f.1
 split at h<;>try (simp at h;done)
 rename_i es B
 unfold eW at h
 split at h<;>simp only[ar,iy,reduceCtorEq] at h
 rename_i j
 obtain⟨rfl,rfl⟩:=h
 simp only[Bool.and_eq_true] at j
 have c2:=eL j.1
 have c3:=eL j.2
 obtain⟨s,l,o⟩:=jk (P:=P) (w:=w) (g:=g) A
 have c:=jP o f.2
 have d:s.cells.size=n+1:=by rw[←c.1,k]
 have h0:=wY (n:=len) (m:=len) c (Nat.le_refl _)
 rw[d] at h0
 obtain⟨c', u,C,D,E⟩:=Hy v B h0
 obtain⟨F,G⟩:=C.alloc hi el (by omega) c3
 have p:c'.size=len*(n+1):=by rw[D];simp
 have e:es.length=len:=by rw[E];simp
 refine⟨.slice (some ⟨w.heap.size,0,none⟩) len len,_,_,?_,?_,F,G⟩
 · simp only[Instr.buildSlice,Sem.run_bind,ag y,Result.andThen_ok,run_sizeOf q]
   rw[if_neg (by omega)]
   by_cases a:len*(n+1)=0
   · rw[if_pos a]
     simp only[Sem.run_bind,Sem.run_pure,Result.andThen_ok]
     have:((Array.range (len*(n+1))).map fun i=>(#[]:Array Value)[i%(#[]:Array Value).size]!)=(Array.range (len*(n+1))).map fun i=>s.cells[i%(n+1)]! := by
      rw[a];apply Array.ext';simp
     rw[this,u]
     simp[newRow]
   · rw[if_neg a]
     simp only[Sem.run_bind,l,Result.andThen_ok,Sem.run_pure,d]
     rw[u]
     simp[newRow]
 · have:=VR.aj (g:=g.add S.nx ⟨w.heap.size,0,n+1,c'.size⟩) (id:=S.nx) (off:=0) (len:=es.length) (cap:=len) (Gh.add_same _ _ _) (by omega) (by simp;omega)
   rw[e] at this ⊢
   simpa using this
def mZ (P:Program)(S:af)(t:TypeId)(len cap:AV):Option (AV×af):=
 match tK len,tK cap,P.underlying t with
 | some l,some c,some (.slice el)=>match P.info? el,iC P el with
   | some i,some z=>match Nat.ble l c&&Nat.ble (c*(i.bytes+1)) (2 ^ 40)&&Nat.beq z.cells.length i.size&&Nat.ble 1 i.size&&z.cells.all dj with
     | true=>eW S i.size (List.replicate l z)
     | false=>none
   | _,_=>none
 | _,_,_=>none
theorem wrap64_in {n:Int}(h : -9223372036854775808≤n∧n≤9223372036854775807):IntKind.i64.wrap n=n:=by rw[IntKind.wrap_i64];omega
theorem vU (h:n<2 ^ 62):IntKind.i64.wrap (n:Int)=n:=wrap64_in (by omega)
theorem xz (hi:Inv S g w){len cap:AV}{y:Value}(h:mZ P S t len cap=some (r,S'))(hx:VR g len x)(E:VR g cap y) :
   ∃ z w' g', (Instr.makeSlice t x y).run P w=.ok z w' ∧ VR g' r z∧Inv S' g' w' ∧ Ext S g w S' g' w' := by
 unfold mZ at h
 split at h<;>try (simp at h;done)
 rename_i l c el F f G
 obtain⟨k1,rfl⟩:=gJ F hx
 obtain⟨k2,rfl⟩:=gJ f E
 split at h<;>try (simp at h;done)
 rename_i i z a H
 split at h<;>try (simp at h;done)
 rename_i B
 simp only[Bool.and_eq_true] at B
 obtain⟨⟨⟨⟨j,o⟩,p⟩,C⟩,I⟩:=B
 have j:=eL j
 have o:=eL o
 have p:=jK p
 have C:=eL C
 unfold eW at h
 split at h<;>simp only[ar,iy,reduceCtorEq] at h
 rename_i q
 obtain⟨rfl,rfl⟩:=h
 simp only[Bool.and_eq_true] at q
 have c2:=eL q.1
 have c3:=eL q.2
 obtain⟨D,s,u⟩:=jk (P:=P) (w:=w) (g:=g) H
 have d:=jP u I
 have e:D.cells.size=i.size:=by rw[←d.1,p]
 have h0:=wY (n:=l) (m:=c) d j
 rw[e] at h0
 obtain⟨J,K⟩:=h0.alloc hi el (by omega) c3
 have M:c*i.bytes≤2 ^ 40:=Nat.le_trans (Nat.mul_le_mul_left c (Nat.le_succ _)) o
 have N:c≤2 ^ 40:=Nat.le_trans (Nat.le_mul_of_pos_right c (Nat.succ_pos _)) o
 have w1:IntKind.i64.wrap (Int.ofNat l)=l:=vU (by omega)
 have L:IntKind.i64.wrap (Int.ofNat c)=c:=vU (by omega)
 have v:pT P el=some i.size:=by simp[pT,a]
 refine⟨.slice (some ⟨w.heap.size,0,none⟩) l c,_,_,?_,?_,J,K⟩
 · simp only[Instr.makeSlice,Sem.run_bind,ag G,Result.andThen_ok,asInt,asIntOf,Sem.run_pure,cZ a,w1,L]
   have A:¬ ((decide ((c:Int)<0)||decide ((i.bytes:Int)*(c:Int)>2 ^ 48))||decide ((l:Int)<0)||decide ((l:Int)>(c:Int)))=true:=by
     simp only[Bool.or_eq_true,decide_eq_true_eq,not_or]
     refine⟨⟨⟨by omega,?_⟩,by omega⟩,by omega⟩
     have:((i.bytes:Int)*(c:Int))=((c*i.bytes:Nat):Int):=by rw[Int.natCast_mul,Int.mul_comm]
     rw[this];omega
   rw[if_neg A]
   simp only[Sem.run_bind,run_askRoom,Result.andThen_ok,run_sizeOf v,Int.toNat_natCast]
   by_cases b:c*i.size=0
   · rw[if_pos b]
     simp only[Sem.run_bind,Sem.run_pure,Result.andThen_ok]
     have:((Array.range (c*i.size)).map fun k=>(#[]:Array Value)[k%(#[]:Array Value).size]!)=(Array.range (c*i.size)).map fun k=>D.cells[k%i.size]! := by
      rw[b];apply Array.ext';simp
     rw[this]
     simp[newRow]
   · rw[if_neg b]
     simp only[Sem.run_bind,s,Result.andThen_ok,Sem.run_pure,e]
     simp[newRow]
 · have:=VR.aj (g:=g.add S.nx ⟨w.heap.size,0,i.size,c*i.size⟩) (id:=S.nx) (off:=0) (len:=l) (cap:=c) (Gh.add_same _ _ _) j (by simp)
   simpa using this
end
end Go.Eng
namespace Go.Eng
noncomputable section
def pY (S:af):AV→Option (List AV)
 | .lit es=>some es
 | .aj id off len=>match S.get id with
   | some (.arr _ es)=>match Nat.ble (off+len) es.length with
     | true=>some ((es.drop off).take len)
     | false=>none
   | _=>none
 | .an=>some []
 | .eG=>some []
 | _=>none
def gH (S:af):AV→Option (List AV)
 | .clip v=>pY S v
 | v=>pY S v
def sized (n:Nat)(es:List AV):Bool:=es.all fun e=>Nat.beq e.cells.length n&&e.cells.all dj
variable {n : Nat} {es : List AV}
theorem jQ (h:sized n es=true){e:AV}(a:e∈es):e.cells.length=n∧e.cells.all dj=true:=by
 have:=List.all_eq_true.1 h e a
 simp only[Bool.and_eq_true] at this
 exact⟨jK this.1,this.2⟩
variable {P : Program} {S : af} {g : Gh} {w : World} {x : AV} {y : Value}
theorem AM (hi:Inv S g w)(h:pY S x=some es)(E:VR g x y)(K:sized n es=true) :
   ∃ a cap cs,y=.slice a es.length cap∧es.length≤cap∧(∀ w', w'.heap=w.heap→(Builtin.firstCells n es.length y).run P w' = .ok cs w')∧pw g n es cs∧cs.size=es.length*n:=by
 have f:∀(a:Option Addr) (cap:Nat) (w' : World),w'.heap=w.heap→(Builtin.firstCells n 0 (.slice a 0 cap)).run P w' = .ok #[] w' := by
   intro a cap w' _
   cases a with
   | none=>simp[Builtin.firstCells]
   | some a=>simp[Builtin.firstCells,loadCells,loadCellsFrom]
 have C:pw g n [] #[]:=⟨by simp,by simp,by simp⟩
 unfold pY at h
 split at h<;>try (simp at h;done)
 · simp only[ar] at h;subst h
   cases E with
   | gG=>exact⟨_,_,#[],rfl,Nat.zero_le _,f _ _,C,by simp⟩
   | lit O D L m hh=>
     rename_i es b o sz cap c
     by_cases F:es=[]
     · subst F;exact⟨_,cap,#[],rfl,Nat.zero_le _,f _ _,C,by simp⟩
     · have v:n=sz:=by
         obtain⟨e,q⟩:=List.exists_mem_of_ne_nil _ F
         rw[←D e q,(jQ K q).1]
       subst v
       obtain⟨t,fz,Q⟩:=hi.ro _ _ O
       refine⟨_,cap,c.extract o (o+es.length*n),rfl,m,?_,⟨by simp;omega,D,?_⟩,by simp;omega⟩
       · intro w' A
         simp only[Builtin.firstCells]
         rw[run_loadCells (by rw[A];exact Q) L]
       · intro i j e a z u G p
         rw[Array.getElem?_extract] at p
         split at p
         · exact hh i j e a z u G (by rw[←p];congr 1;omega)
         · simp at p
 · rename_i id off len
   split at h<;>try (simp at h;done)
   rename_i sz es' R
   split at h<;>simp only[ar,reduceCtorEq] at h
   rename_i B
   have B:=eL B
   subst h
   have k:((es'.drop off).take len).length=len:=by simp;omega
   cases E with
   | ga=>simp only[List.take_zero] at *;exact⟨_,_,#[],rfl,Nat.le_refl _,f _ _,C,by simp⟩
   | aj T m L=>
     rename_i cap l
     obtain⟨l', H,X,U⟩:=hi.ob _ _ R
     rw[T] at H;simp only[ar] at H;subst H
     obtain⟨c,Y,V,Z,M,p4,N,W⟩:=U
     rw[k]
     by_cases F:len=0
     · subst F;simp only[List.take_zero] at *;exact⟨_,cap,#[],rfl,Nat.zero_le _,f _ _,C,by simp⟩
     · have v:n=sz:=by
         have I:(es'.drop off).take len≠[]:=by intro e;rw[e] at k;simp at k;omega
         obtain⟨e,q⟩:=List.exists_mem_of_ne_nil _ I
         rw[←N e (List.mem_of_mem_drop (List.mem_of_mem_take q)),(jQ K q).1]
       subst v
       have J:l.base+off*l.sz+len*n≤c.size:=by
         rw[M]
         have:(off+len)*n≤es'.length*n:=u9 _ B
         rw[Nat.add_mul] at this;omega
       refine⟨_,cap,c.extract (l.base+off*l.sz) (l.base+off*l.sz+len*n),rfl,m,?_,⟨by rw[k];simp;omega,?_,?_⟩,by simp;omega⟩
       · intro w' A
         simp only[Builtin.firstCells]
         rw[run_loadCells (by rw[A];exact V) J]
       · intro e q;exact N e (List.mem_of_mem_drop (List.mem_of_mem_take q))
       · intro i j e a z u G p
         rw[List.getElem?_take] at u
         split at u
         · rw[List.getElem?_drop] at u
           rw[Array.getElem?_extract] at p
           split at p
           · refine W (off+i) j e a z u G ?_
             rw[←p];congr 1;rw[M,Nat.add_mul];omega
           · simp at p
         · simp at u
 · simp only[ar] at h;subst h
   cases E with | an=>exact⟨_,_,#[],rfl,Nat.le_refl _,f _ _,C,by simp⟩
 · simp only[ar] at h;subst h
   cases E with | eG=>exact⟨_,_,#[],rfl,Nat.le_refl _,f _ _,C,by simp⟩
theorem qU (hi:Inv S g w)(h:gH S x=some es)(b:VR g x y)(e:sized n es=true) :
   ∃ a cap cs,y=.slice a es.length cap∧es.length≤cap∧(∀ w', w'.heap=w.heap→(Builtin.firstCells n es.length y).run P w' = .ok cs w')∧pw g n es cs∧cs.size=es.length*n:=by
 unfold gH at h
 split at h
 · cases b with | clip b=>?_
   obtain⟨a,cap,cs,f,e2,j,k,l⟩:=AM (P:=P) hi h b e
   simp only[Value.slice.injEq] at f
   obtain⟨rfl,rfl,rfl⟩:=f
   refine⟨_,_,cs,rfl,Nat.le_refl _,fun w' m=>?_,k,l⟩
   have:=j w' m
   rename_i a0 c0
   cases a0<;>exact this
 · exact AM hi h b e
variable {c d : Array Value}
theorem pw.append {fs:List AV}(h:pw g n es c)(m:pw g n fs d)(o:c.size=es.length*n):pw g n (es++fs) (c++d):=by
 obtain⟨A,a2,a3⟩:=h
 obtain⟨B,p,q⟩:=m
 refine⟨?_,?_,?_⟩
 · simp only[List.length_append,Array.size_append,Nat.add_mul];omega
 · intro e u;rcases List.mem_append.1 u with k | k
   · exact a2 e k
   · exact p e k
 · intro i j e a y b l f
   by_cases hi:i<es.length
   · rw[List.getElem?_append_left hi] at b
     have C:j<n:=by rw[←a2 e (tl b)];exact(List.getElem?_eq_some_iff.1 l).1
     have:i*n+n≤es.length*n:=by
      have:(i+1)*n≤es.length*n:=u9 _ hi
      rw[Nat.succ_mul] at this;exact this
     rw[Array.getElem?_append_left (by omega)] at f
     exact a3 i j e a y b l f
   · rw[List.getElem?_append_right (by omega)] at b
     have v:es.length*n≤i*n:=u9 _ (by omega)
     rw[Array.getElem?_append_right (by omega)] at f
     refine q _ j e a y b l ?_
     rw[←f];congr 1;rw[Nat.sub_mul,o];omega
theorem pw.more (h:pw g n es c)(d:Array Value)(a:c.size=es.length*n):pw g n es (c++d):=by
 have:=h.append (fs:=[]) (d:=d) ⟨by simp,by simp,by simp⟩ a
 simpa using this
theorem pw.mono {g g' : Gh}(b:Gh.le g g'){n:Nat}{es:List AV}{c:Array Value}(h:pw g n es c):pw g' n es c:=⟨h.1,h.2.1,fun i j e a y f k l=>(h.2.2 i j e a y f k l).mono b⟩
theorem JK (a B:Nat)(e:a+(a+768)/4≤B):∀(r c:Nat),c≤B→Builtin.growBy a r c≤B:=by
 intro r
 induction r with
 | zero=>intro c h;exact h
 | succ r b=>
   intro c h
   simp only[Builtin.growBy]
   split
   · exact h
   · exact b _ (by omega)
theorem nextslicecap_le (a rM:Nat)(h:rM<a):Builtin.nextslicecap a rM≤2*a+768:=by
 unfold Builtin.nextslicecap
 split
 · omega
 · split
   · omega
   · exact JK a _ (by omega) 4 rM (by omega)
variable {w' : World}
theorem Inv.world (h:Inv S g w)(hh:w'.heap=w.heap):Inv S g w' :=
 ⟨fun b c e=>by rw[hh];exact h.ro b c e,fun id o e=>by obtain⟨l,a,b,c⟩:=h.ob id o e;exact⟨l,a,b,by rw[hh];exact c⟩,h.inj,h.fresh⟩
theorem Ext.world (hh:w'.heap=w.heap)(f:w'.os=w.os)(j:ET w' w)(k:w'.output=w.output):Ext S g w S g w' :=
 ⟨by rw[hh];exact Nat.le_refl _,f,j,k,fun b _ _=>by rw[hh],fun id o l h h1 h2 _=>⟨id,o,l,h,h1,h2,rfl⟩,Gh.le_refl _,Nat.le_refl _,rfl,fun _ _=>rfl,fun _ _=>rfl,fun _ _ e _=>.inl e,fun _ _ e=>e,fun a _=>by unfold World.frozen?;rw[hh]⟩
variable {sz : Nat}
theorem AN (hi:Inv S g w){id off:Nat}{xs:List AV}{l:Loc}{cc:Array Value}(J:S.get id=some (.arr sz es))(O:S.lim≤id)(K:g.ph id=some l)(E:sized sz xs=true)(L:pw g sz xs cc)(u:cc.size=xs.length*sz)(Q:off+xs.length≤es.length) :
   ∃ w', (storeCells ⟨l.cd,l.base+off*sz,none⟩ cc.toList).run P w=.ok () w' ∧ Inv (S.set id (.arr sz (j5 es off xs))) g w' ∧ Ext S g w (S.set id (.arr sz (j5 es off xs))) g w' := by
 obtain⟨l', F,q2,R⟩:=hi.ob _ _ J
 rw[K] at F;simp only[ar] at F;subst F
 obtain⟨c,M,T,U,V,W,N,X⟩:=R
 have v:cc.toList.length=xs.length*sz:=by rw[show cc.toList.length=cc.size from Array.length_toList];exact u
 have m:l.base+off*sz+cc.toList.length≤c.size:=by
   rw[v]
   have:(off+xs.length)*sz≤es.length*sz:=u9 _ Q
   rw[Nat.add_mul] at this;omega
 have C:∀ y,y∈cc.toList→y.oneCell' = true:=by
   intro y Y
   obtain⟨k,p⟩:=List.getElem?_of_mem Y
   have A:cc[k]? = some y:=by simpa using p
   have h:k<xs.length*sz:=by rw[←u];exact(Array.getElem?_eq_some_iff.1 A).1
   have G:0<sz:=by
     rcases Nat.eq_zero_or_pos sz with e | e
     · rw[e] at h;simp at h
     · exact e
   have h1:k/sz<xs.length:=Nat.div_lt_of_lt_mul (by rw[Nat.mul_comm];exact h)
   have h2:k%sz<sz:=Nat.mod_lt _ G
   obtain⟨Z,s2⟩:=jQ E (List.getElem_mem h1)
   have h3:k%sz<xs[k/sz].cells.length:=by rw[Z];exact h2
   refine nC (List.all_eq_true.1 s2 _ (List.getElem_mem h3)) (L.2.2 _ _ _ _ y (oe h1) (oe h3) ?_)
   rw[←A];congr 1;rw[Nat.mul_comm];exact Nat.div_add_mod k sz
 obtain⟨w', r1,r2,r3,r4,r5,r6,r7⟩:=nJ (P:=P) (b:=l.cd) (o:=l.base+off*sz) (t:=M) cc.toList w c 0 T (by omega) C
 refine⟨w', by simpa using r1,?_⟩
 refine hi.j2 J O K r4 r2 r3 r5 r6 r7 ⟨_,M,rfl,by simp[fU,U],V,by simp[fU];exact W,?_,?_⟩
 · intro e he
   obtain⟨k,p⟩:=List.getElem?_of_mem he
   rw[ia _ _ _ (by omega)] at p
   split at p
   · exact(jQ E (tl p)).1
   · exact N e (tl p)
 · intro i j e a y f D q
   rw[ia _ _ _ (by omega)] at f
   rw[List.getElem?_toArray,ia _ _ _ (by simp at m ⊢;omega),v] at q
   simp only[Nat.add_zero] at q
   by_cases B:off≤i∧i<off+xs.length
   · rw[if_pos B] at f
     have hj:j<sz:=by rw[←(jQ E (tl f)).1];exact(List.getElem?_eq_some_iff.1 D).1
     have hm:(i-off)*sz+sz≤xs.length*sz:=by
      have:(i-off+1)*sz≤xs.length*sz:=u9 _ (by omega)
      rw[Nat.succ_mul] at this;exact this
     have hio:i*sz=off*sz+(i-off)*sz:=by rw[←Nat.add_mul];congr 1;omega
     rw[if_pos (by omega)] at q
     refine L.2.2 _ j e a y f D ?_
     rw[←Array.getElem?_toList,←q];congr 1;omega
   · rw[if_neg B] at f
     have hj:j<sz:=by rw[←N e (tl f)];exact(List.getElem?_eq_some_iff.1 D).1
     have H:¬ (l.base+off*sz≤l.base+i*sz+j∧l.base+i*sz+j<l.base+off*sz+xs.length*sz):=by
      rintro⟨c1,c2⟩
      rcases Nat.lt_or_ge i off with I | hge
      · have:(i+1)*sz≤off*sz:=u9 _ I
        rw[Nat.succ_mul] at this;omega
      · have:(off+xs.length)*sz≤i*sz:=u9 _ (by omega)
        rw[Nat.add_mul] at this;omega
     rw[if_neg H] at q
     exact X i j e a y f D (by simpa using q)
def xR (S:af)(id off len sz:Nat)(xs:List AV):Option af:=
 match S.get id with
 | some (.arr a es)=>match Nat.beq a sz&&Nat.ble S.lim id&&Nat.ble (off+len+xs.length) es.length with
   | true=>some (S.set id (.arr a (j5 es (off+len) xs)))
   | false=>none
 | _=>none
def kC (P:Program)(S:af)(ts:List TypeId)(s x:AV):Option (AV×af):=
 match ts with
 | st::xt::_=>match P.underlying st,P.underlying xt with
   | some (.slice el),some (.slice _)=>match P.info? el,iC P el,gH S x with
     | some i,some z,some xs=>match sized i.size xs&&Nat.ble 1 i.size&&Nat.ble i.bytes 4096&&Nat.beq z.cells.length i.size&&z.cells.all dj with
       | true=>match xs with
         | []=>match gH S s with
           | some es=>match sized i.size es with
             | true=>some (s,S)
             | false=>none
           | none=>none
         | _::_=>match s with
           | .an=>match Nat.ble xs.length 1048576 with
             | true=>eW S i.size xs
             | false=>none
           | .eG=>match Nat.ble xs.length 1048576 with
             | true=>eW S i.size xs
             | false=>none
           | .aj id off len=>match xR S id off len i.size xs with
             | some S' => some (.aj id off (len+xs.length),S')
             | none=>match S.get id,gH S s with
               | some (.arr sz _),some es=>match Nat.ble (es.length+xs.length) 1048576&&sized i.size es&&Nat.ble S.lim id&&Nat.beq sz i.size with
                 | true=>eW (S.del id) i.size (es++xs)
                 | false=>none
               | _,_=>none
           | .clip _=>match gH S s with
             | some es=>match Nat.ble (es.length+xs.length) 1048576&&sized i.size es with
               | true=>eW S i.size (es++xs)
               | false=>none
             | none=>none
           | _=>none
       | false=>none
     | _,_,_=>none
   | _,_=>none
 | _=>none
variable {st xt el e2 : TypeId} {i : TypeInfo} {z : Value} {ts : List TypeId} {sLen sCap : Nat} {new : Array Value} {t : TypeId}
theorem run_append_grow {base:Option Addr}{x:Value}{rM:Array Value}(o:P.underlying st=some (.slice el))(h:P.underlying xt=some (.slice e2))(hi:P.info? el=some i)(p:i.zero=some z)(q:i.bytes≤4096)(m:sLen+n≤2097152)(b:sCap<sLen+n)(e:(Builtin.lenOf x).run P w=.ok n w)(u:∀ w', w'.heap=w.heap→(Builtin.firstCells i.size sLen (.slice base sLen sCap)).run P w' = .ok rM w')(v:∀ w', w'.heap=w.heap→(Builtin.firstCells i.size n x).run P w' = .ok new w') :
  ∃ w' cap,(Builtin.append_ (st::xt::ts).toArray t #[.slice base sLen sCap,x]).run P w=.ok (.slice (some ⟨w.heap.size,0,none⟩) (sLen+n) cap) w' ∧ sLen+n≤cap ∧
   w'.heap=w.heap.push (.cells (rM++new++Builtin.zeroCells z.cells (cap-(sLen+n))) el)∧w'.os=w.os∧ET w' w∧w'.output=w.output:=by
 have j:pT P el=some i.size:=by simp[pT,hi]
 have f:¬ (((sLen+n:Nat):Int)>IntKind.i64.max∧(False∨i.bytes=0)):=by
  have:IntKind.i64.max=9223372036854775807:=by decide
  omega
 have a:¬ (Builtin.nextslicecap (sLen+n) sCap*i.bytes>2 ^ 48):=by
  have h1:=nextslicecap_le (sLen+n) sCap b
  have h2:Builtin.nextslicecap (sLen+n) sCap*i.bytes≤(2*2097152+768)*4096:=Nat.mul_le_mul (by omega) q
  omega
 refine ⟨(w.drew).alloc (.cells (rM++new++Builtin.zeroCells z.cells (Question.cut (.appendCap (sLen+n) sCap el) (w.tape w.drawn (.appendCap (sLen+n) sCap el))-(sLen+n))) el),
  Question.cut (.appendCap (sLen+n) sCap el) (w.tape w.drawn (.appendCap (sLen+n) sCap el)),?_,Nat.le_add_right _ _,rfl,rfl,⟨rfl,Nat.le_succ _⟩,rfl⟩
 have k:=u w.drew rfl
 have l:=v w.drew rfl
 have hzero:(zeroValue el).run P w.drew=.ok z w.drew:=by simp[zeroValue,cZ hi,p]
 simp only[Builtin.append_,Sem.run_bind,List.getElem?_toArray,List.getElem?_cons_zero,List.getElem?_cons_succ,ag o,ag h,Result.andThen_ok,run_sizeOf j,Sem.run_pure,
  Bool.false_eq_true,if_false,e]
 rw[if_neg (by omega)]
 simp only[Sem.run_bind,cZ hi,Result.andThen_ok]
 rw[if_neg f]
 simp only[Sem.run_bind,cZ hi,Result.andThen_ok]
 rw[if_neg a]
 simp only[Sem.run_bind,run_choose,Question.forced,Bool.false_eq_true,if_false,Result.andThen_ok,cZ hi,run_askRoom,World.drew_eq,k,l,Bool.not_false,if_true,hzero,newRow,run_newObj,Sem.run_pure]
 rfl
theorem run_append_fits {a:Addr}{x:Value}(k:P.underlying st=some (.slice el))(f:P.underlying xt=some (.slice e2))(hi:P.info? el=some i)(b:sLen+n≤sCap)(e:(Builtin.lenOf x).run P w=.ok n w)(l:(Builtin.firstCells i.size n x).run P w=.ok new w)(h:(storeCells (a.add (sLen*i.size)) new.toList).run P w=.ok () w') :
  (Builtin.append_ (st::xt::ts).toArray t #[.slice (some a) sLen sCap,x]).run P w=.ok (.slice (some a) (sLen+n) sCap) w' := by
 have j:pT P el=some i.size:=by simp[pT,hi]
 simp only[Builtin.append_,Sem.run_bind,List.getElem?_toArray,List.getElem?_cons_zero,List.getElem?_cons_succ,ag k,ag f,Result.andThen_ok,run_sizeOf j,Sem.run_pure,
  Bool.false_eq_true,if_false,e]
 rw[if_pos b]
 simp only[Sem.run_bind,Bool.not_false,if_true,l,Result.andThen_ok,h,Sem.run_pure]
theorem zj {b:Option Addr}{x:Value}(l:P.underlying st=some (.slice el))(h:P.underlying xt=some (.slice e2))(hi:P.info? el=some i)(e:sLen≤sCap)(f:(Builtin.lenOf x).run P w=.ok 0 w)(k:(Builtin.firstCells i.size 0 x).run P w=.ok #[] w) :
  (Builtin.append_ (st::xt::ts).toArray t #[.slice b sLen sCap,x]).run P w=.ok (.slice b sLen sCap) w:=by
 have j:pT P el=some i.size:=by simp[pT,hi]
 simp only[Builtin.append_,Sem.run_bind,List.getElem?_toArray,List.getElem?_cons_zero,List.getElem?_cons_succ,ag l,ag h,Result.andThen_ok,run_sizeOf j,Sem.run_pure,
  Bool.false_eq_true,if_false,f,Nat.add_zero]
 rw[if_pos e]
 cases b with
 | none=>simp only[Sem.run_bind,Bool.not_false,if_true,k,Result.andThen_ok,Sem.run_pure]
 | some a=>simp only[Sem.run_bind,Bool.not_false,if_true,k,Result.andThen_ok,Sem.run_pure,storeCells]
variable {S' : af} {r : AV}
theorem yA {w1:World}(hi:Inv S g w){cap:Nat}{zs:Nat}(h:eW S sz es=some (r,S'))(p:pw g sz es c)(b:c.size=es.length*sz)(q:d.size=(cap-es.length)*sz)(f:es.length≤cap)(hh:w1.heap=w.heap.push (.cells (c++d) el))(u:w1.os=w.os)(v:ET w1 w)(A:w1.output=w.output)(B:zs=w.heap.size) :
  ∃ g', VR g' r (.slice (some ⟨zs,0,none⟩) es.length cap)∧Inv S' g' w1∧Ext S g w S' g' w1:=by
 subst B
 unfold eW at h
 split at h<;>simp only[ar,iy,reduceCtorEq] at h
 rename_i k
 obtain⟨rfl,rfl⟩:=h
 simp only[Bool.and_eq_true] at k
 have c2:=eL k.1
 have c3:=eL k.2
 have m:=p.more d b
 obtain ⟨C,D⟩:=hi.alloc (w' := w1) (by omega) (o:=.arr sz es) (ob:=.cells (c++d) el) (l:=⟨w.heap.size,0,sz,(c++d).size⟩) rfl
  ⟨c++d,el,rfl,rfl,rfl,by simpa using m.1,m.2.1,fun i j e a y E F G=>m.2.2 i j e a y E F (by simpa using G)⟩ hh u v A c3
 refine⟨_,?_,C,D⟩
 have:=VR.aj (g:=g.add S.nx ⟨w.heap.size,0,sz,(c++d).size⟩) (id:=S.nx) (off:=0) (len:=es.length) (cap:=cap) (Gh.add_same _ _ _) f
  (by simp[b,q];rw[←Nat.add_mul];congr 1;omega)
 simpa using this
def zQ (P:Program)(S:af)(ts:List TypeId)(s x:AV):Option (AV×af):=
 match ts with
 | st::xt::_=>match P.underlying st,P.underlying xt,s,x with
   | some (.slice el),some (.int _),.an,.sc (.int .i64 (.ofNat n))=>match P.info? el,iC P el with
     | some i,some z=>match Nat.ble 1 n&&Nat.ble n 1048576&&Nat.ble 1 i.size&&Nat.ble i.bytes 4096&&Nat.beq z.cells.length i.size&&z.cells.all dj with
       | true=>eW S i.size (List.replicate n z)
       | false=>none
     | _,_=>none
   | _,_,_,_=>none
 | _=>none
theorem yd {q:IntKind}{k:IntKind}(u:P.underlying st=some (.slice el))(j:P.underlying xt=some (.int q))(hi:P.info? el=some i)(v:i.zero=some z)(p:i.bytes≤4096)(h1:1≤n)(h2:n≤1048576)(h3:1≤i.size) :
  ∃ w' cap,(Builtin.append_ (st::xt::ts).toArray t #[.slice none 0 0,.int k n]).run P w=.ok (.slice (some ⟨w.heap.size,0,none⟩) n cap) w' ∧ n≤cap ∧
   w'.heap=w.heap.push (.cells (Builtin.zeroCells z.cells n++Builtin.zeroCells z.cells (cap-n)) el)∧w'.os=w.os∧ET w' w∧w'.output=w.output:=by
 have l:pT P el=some i.size:=by simp[pT,hi]
 have A:IntKind.i64.wrap (n:Int)=n:=vU (by omega)
 have a:n*i.bytes≤1048576*4096:=Nat.mul_le_mul h2 p
 have b:¬ ((n:Int)*(i.bytes:Int)>2 ^ 48):=by
  have h:=Int.ofNat_le.2 a
  rw[Int.natCast_mul] at h
  omega
 have f:¬ (((0+n:Nat):Int)>IntKind.i64.max∧(True∨i.bytes=0)):=by
  have:IntKind.i64.max=9223372036854775807:=by decide
  omega
 have e:¬ (Builtin.nextslicecap (0+n) 0*i.bytes>2 ^ 48):=by
  have h1:=nextslicecap_le (0+n) 0 (by omega)
  have h2:Builtin.nextslicecap (0+n) 0*i.bytes≤(2*1048576+768)*4096:=Nat.mul_le_mul (by omega) p
  omega
 have m:¬ (n*i.size=0):=by
  have:1*1≤n*i.size:=Nat.mul_le_mul h1 h3
  omega
 refine ⟨(w.drew).alloc (.cells (Builtin.zeroCells z.cells n++Builtin.zeroCells z.cells (Question.cut (.appendCap (0+n) 0 el) (w.tape w.drawn (.appendCap (0+n) 0 el))-n)) el),
  Question.cut (.appendCap (0+n) 0 el) (w.tape w.drawn (.appendCap (0+n) 0 el)),?_,Nat.le_trans (show n≤0+n by omega) (Nat.le_add_right _ _),rfl,rfl,⟨rfl,Nat.le_succ _⟩,rfl⟩
 have hzero:(zeroValue el).run P w.drew=.ok z w.drew:=by simp[zeroValue,cZ hi,v]
 have o:(asInt (.int k (n:Int))).run P w=.ok (n:Int) w:=rfl
 simp only[Builtin.append_,Sem.run_bind,List.getElem?_toArray,List.getElem?_cons_zero,List.getElem?_cons_succ,ag u,ag j,Result.andThen_ok,run_sizeOf l,Sem.run_pure,
  if_true,o,A]
 rw[if_neg (by omega)]
 simp only[Sem.run_bind,cZ hi,Result.andThen_ok]
 rw[if_neg b]
 simp only[Sem.run_bind,Sem.run_pure,Result.andThen_ok,Int.toNat_natCast]
 rw[if_neg (by omega)]
 simp only[Sem.run_bind,cZ hi,Result.andThen_ok]
 rw[if_neg f]
 simp only[Sem.run_bind,cZ hi,Result.andThen_ok]
 rw[if_neg e]
 simp only[Sem.run_bind,run_choose,Question.forced,Bool.false_eq_true,if_false,Result.andThen_ok,cZ hi,run_askRoom,World.drew_eq,Builtin.firstCells,Sem.run_pure,Bool.not_true,m,hzero,newRow,run_newObj,Nat.zero_add,Array.empty_append]
 rfl
variable {s : AV} {sv xv : Value}
theorem BX (hi:Inv S g w)(h:zQ P S ts s x=some (r,S'))(G:VR g s sv)(hx:VR g x xv) :
  ∃ z w' g', (Builtin.append_ ts.toArray t #[sv,xv]).run P w=.ok z w' ∧ VR g' r z∧Inv S' g' w' ∧ Ext S g w S' g' w' := by
 unfold zQ at h
 split at h<;>try (simp at h;done)
 rename_i st xt ts
 split at h<;>try (simp at h;done)
 rename_i el Q n A B
 split at h<;>try (simp at h;done)
 rename_i i z a j
 split at h<;>try (simp at h;done)
 rename_i E
 simp only[Bool.and_eq_true] at E
 obtain⟨⟨⟨⟨⟨o,p⟩,q⟩,u⟩,v⟩,H⟩:=E
 have o:=eL o
 have p:=eL p
 have q:=eL q
 have u:=eL u
 have v:=jK v
 obtain ⟨b,C,D⟩:∃ b,i.zero=some b∧VR g z b:=by
  unfold iC at j
  rw[a] at j
  simp only at j
  split at j<;>simp only[ar,reduceCtorEq] at j
  rename_i b e;subst j;exact⟨b,e,s5 g b⟩
 have l:=jP D H
 have f:b.cells.size=i.size:=by rw[←l.1,v]
 cases G with | an=>?_
 cases hx with | sc _=>?_
 obtain⟨w', cap,I,J,K,L,M,N⟩:=yd (P:=P) (w:=w) (ts:=ts) (k:=.i64) (t:=t) A B a C u o p q
 have F:=wY (n:=n) (m:=n) l (Nat.le_refl _)
 rw[f] at F
 obtain ⟨g', v1,O,v3⟩:=yA (w1:=w') (el:=el) (cap:=cap) (c:=Builtin.zeroCells b.cells n) (d:=Builtin.zeroCells b.cells (cap-n)) hi h (by simpa [Builtin.zeroCells,f] using F) (by simp[Builtin.zeroCells,f]) (by simp[Builtin.zeroCells,f])
  (by simpa using J) K L M N rfl
 exact⟨_,w', g', I,by simpa using v1,O,v3⟩
theorem Ext.del {S:af}{g:Gh}{w:World}{id:Nat}(h:Ok id)(a:S.lim≤id):Ext S g w (S.del id) g w:=
 Ext.forget (af.DY h) fun k b=>af.cn h (by omega)
theorem Bb (hi:Inv S g w)(h:kC P S ts s x=some (r,S'))(N:VR g s sv)(hx:VR g x xv) :
   ∃ z w' g', (Builtin.append_ ts.toArray t #[sv,xv]).run P w=.ok z w' ∧ VR g' r z∧Inv S' g' w' ∧ Ext S g w S' g' w' := by
 unfold kC at h
 split at h<;>try (simp at h;done)
 rename_i st xt ts
 split at h<;>try (simp at h;done)
 rename_i el e2 V W
 split at h<;>try (simp at h;done)
 rename_i i z xs p hz hxs
 split at h<;>try (simp at h;done)
 rename_i G
 simp only[Bool.and_eq_true] at G
 obtain⟨⟨⟨⟨b1,b2⟩,b3⟩,b4⟩,b5⟩:=G
 have b2:=eL b2
 have b3:=eL b3
 have b4:=jK b4
 have hsz:pT P el=some i.size:=by simp[pT,p]
 obtain ⟨O,hzi,hzv⟩:∃ O,i.zero=some O∧VR g z O:=by
   unfold iC at hz
   rw[p] at hz
   simp only at hz
   split at hz<;>simp only[ar,reduceCtorEq] at hz
   rename_i O e;subst hz;exact⟨O,e,s5 g O⟩
 have hzs:O.cells.size=i.size:=by rw[←(jP hzv b5).1,b4]
 have hzc:∀ k,(Builtin.zeroCells O.cells k).size=k*i.size:=by intro k;simp[Builtin.zeroCells,hzs]
 obtain⟨xa,xcap,D,hxe,hxcap,X,Y,B⟩:=qU (P:=P) hi hxs hx b1
 have Z:∀ w', (Builtin.lenOf xv).run P w' = .ok xs.length w' := by intro w';rw[hxe];rfl
 split at h
 ·
   split at h<;>try (simp at h;done)
   rename_i es C
   split at h<;>simp only[ar,iy,reduceCtorEq] at h
   rename_i hsd
   obtain⟨rfl,rfl⟩:=h
   obtain⟨sa,f,sc,A,hsc,_,_,_⟩:=qU (P:=P) hi C N hsd
   refine⟨sv,w,g,?_,N,hi,Ext.refl _ _ _⟩
   rw[A]
   refine zj V W p hsc (Z w) ?_
   have h0:=X w rfl
   simp only[List.length_nil] at h0
   rw[h0]
   have:D.size=0:=by rw[B];simp
   rw[Array.eq_empty_of_size_eq_zero this]
 · rename_i q u
   have grow:∀(S0:af) (es:List AV) (sb:Option Addr) (f:Nat) (sc:Array Value),Inv S0 g w→eW S0 i.size (es++q::u)=some (r,S')→(es++q::u).length≤1048576→f<es.length+(q::u).length →
       (∀ w', w'.heap=w.heap→(Builtin.firstCells i.size es.length (.slice sb es.length f)).run P w' = .ok sc w')→pw g i.size es sc→sc.size=es.length*i.size →
       ∃ z w' g', (Builtin.append_ (st::xt::ts).toArray t #[.slice sb es.length f,xv]).run P w=.ok z w' ∧ VR g' r z∧Inv S' g' w' ∧ Ext S0 g w S' g' w' := by
     intro S0 es sb f sc hi0 hnew m J hrun hE E
     obtain⟨w', cap,Q,R,T,r4,r5,r6⟩:=run_append_grow (P:=P) (ts:=ts) (t:=t) V W p hzi b3 (by simp at m ⊢;omega) J (Z w) hrun X
     obtain ⟨g', v1,v2,v3⟩:=yA (w1:=w') (el:=el) (cap:=cap) hi0 hnew (hE.append Y E) (by simp[E,B,Nat.add_mul]) (d:=Builtin.zeroCells O.cells (cap-(es.length+(q::u).length)))
       (by rw[hzc];simp) (by simp at R ⊢;omega) T r4 r5 r6 rfl
     exact⟨_,w', g', Q,by simpa using v1,v2,v3⟩
   split at h<;>try (simp at h;done)
   · split at h<;>try (simp at h;done)
     rename_i m
     have m:=eL m
     cases N with | an=>?_
     exact grow S [] none 0 #[] hi (by simpa using h) (by simpa using m) (by simp) (by intro w' _;simp[Builtin.firstCells]) ⟨by simp,by simp,by simp⟩ (by simp)
   · split at h<;>try (simp at h;done)
     rename_i m
     have m:=eL m
     cases N with | eG=>?_
     rename_i a
     refine grow S [] a 0 #[] hi (by simpa using h) (by simpa using m) (by simp) ?_ ⟨by simp,by simp,by simp⟩ (by simp)
     intro w' _;cases a<;>simp[Builtin.firstCells,loadCells,loadCellsFrom]
   · rename_i id off len
     split at h
     · rename_i S2 F
       simp only[ar,iy] at h
       obtain⟨rfl,rfl⟩:=h
       unfold xR at F
       split at F<;>try (simp at F;done)
       rename_i sz es hg
       split at F<;>simp only[ar,reduceCtorEq] at F
       rename_i hc
       simp only[Bool.and_eq_true] at hc
       have d1:=jK hc.1.1
       have d2:=eL hc.1.2
       have d3:=eL hc.2
       subst F
       subst d1
       obtain⟨l,q1,q2,q3⟩:=hi.ob _ _ hg
       obtain⟨w', Q,R,T⟩:=AN (P:=P) (off:=off+len) hi hg d2 q1 b1 Y B d3
       obtain⟨c,t', p1,p2,L,p4,p5,p6⟩:=q3
       have hmul:(off+len+(q::u).length)*i.size≤es.length*i.size:=u9 _ d3
       cases N with
       | ga M hz=>
         exfalso
         rw[q1] at M;simp only[ar] at M;subst M
         rw[L] at hz
         rw[Nat.add_mul,Nat.add_mul] at hmul
         have:1*1≤(q::u).length*i.size:=Nat.mul_le_mul (by simp) b2
         omega
       | aj M J I=>
         rename_i cap lq
         rw[q1] at M;simp only[ar] at M;subst M
         rw[L] at I ⊢
         have m:(off+len+(q::u).length)*i.size≤(off+cap)*i.size:=by omega
         have hle2:=Nat.le_of_mul_le_mul_right m (by omega)
         have ha:(⟨l.cd,l.base+off*i.size,none⟩:Addr).add (len*i.size)=⟨l.cd,l.base+(off+len)*i.size,none⟩:=by
          rw[Addr.nv,Nat.add_mul,Nat.add_assoc]
         refine⟨_,w', g,run_append_fits V W p (by omega) (Z w) (X w rfl) (by rw[ha];exact Q),?_,R,T⟩
         have:=VR.aj (g:=g) (id:=id) (off:=off) (len:=len+(q::u).length) (cap:=cap) q1 (by omega) (by rw[L];exact I)
         rw[L] at this;exact this
     split at h<;>try (simp at h;done)
     rename_i sz es' es hg C
     split at h<;>try (simp at h;done)
     rename_i G
     simp only[Bool.and_eq_true] at G
     have c1:=eL G.1.1.1
     have c3:=eL G.1.2
     have c4:=jK G.2
     obtain⟨sa,f,sc,A,hsc,hsr,hsE,E⟩:=qU (P:=P) hi C N G.1.1.2
     have aQ:=af.dY hg
     by_cases hfit:es.length+(q::u).length≤f
     ·
       cases N with
       | ga=>
         simp only[Value.slice.injEq] at A
         exfalso;simp at hfit;omega
       | aj M J I=>
         rename_i cap l
         simp only[Value.slice.injEq] at A
         obtain⟨e1,e2,e3⟩:=A
         subst e3
         obtain⟨l', q1,q2,q3⟩:=hi.ob _ _ hg
         rw[M] at q1;simp only[ar] at q1;subst q1
         obtain⟨c,t', p1,p2,L,p4,p5,p6⟩:=q3
         have hes' : es=(es'.drop off).take len∧off+len≤es'.length:=by
          simp only[gH,pY,hg] at C
          split at C<;>simp only[ar,reduceCtorEq] at C
          rename_i m;exact⟨C.symm,eL m⟩
         obtain⟨hes1,hes2⟩:=hes'
         have hxc1:∀ k,k<D.size→∃ e a,(q::u)[k/i.size]? = some e∧e.cells[k%i.size]? = some a∧dj a=true:=by
          intro k hk
          rw[B] at hk
          have h1:k/i.size<(q::u).length:=Nat.div_lt_of_lt_mul (by rw[Nat.mul_comm];exact hk)
          have h2:k%i.size<i.size:=Nat.mod_lt _ (by omega)
          obtain⟨s1,s2⟩:=jQ b1 (List.getElem_mem h1)
          have h3:k%i.size<(q::u)[k/i.size].cells.length:=by rw[s1];exact h2
          exact⟨_,_,oe h1,oe h3,List.all_eq_true.1 s2 _ (List.getElem_mem h3)⟩
         have hone:∀ y,y∈D.toList→y.oneCell' = true:=by
          intro y hy
          obtain⟨k,hk⟩:=List.getElem?_of_mem hy
          have hk' : D[k]? = some y:=by simpa using hk
          obtain⟨e,a,U,f2,f3⟩:=hxc1 k (Array.getElem?_eq_some_iff.1 hk').1
          refine nC f3 (Y.2.2 _ _ e a y U f2 ?_)
          rw[←hk'];congr 1;rw[Nat.mul_comm];exact Nat.div_add_mod k i.size
         have hroom:l.base+off*l.sz+len*i.size+D.toList.length≤c.size:=by
          rw[p2,show D.toList.length=D.size from Array.length_toList,B]
          have:(off+(len+(q::u).length))*l.sz≤(off+cap)*l.sz:=u9 _ (by omega)
          rw[Nat.add_mul,Nat.add_mul,L,c4] at this
          rw[L,c4] at I ⊢
          omega
         obtain⟨w', Q,R,T,r4,r5,r6,r7⟩:=nJ (P:=P) (b:=l.cd) (o:=l.base+off*l.sz+len*i.size) (t:=t') D.toList w c 0 p1 (by omega) hone
         unfold eW at h
         split at h<;>simp only[ar,iy,reduceCtorEq] at h
         rename_i hn2
         obtain⟨rfl,rfl⟩:=h
         simp only[Bool.and_eq_true] at hn2
         have d2:S.nx+1≤8192:=eL hn2.1
         have hxl2:D.toList.length=(q::u).length*i.size:=by rw[show D.toList.length=D.size from Array.length_toList];exact B
         have K:(es++q::u).length=len+(q::u).length:=by rw[List.length_append,e2]
         have hsz' : (j5 c.toList (l.base+off*l.sz+len*i.size+0) D.toList).toArray.size=l.bz:=by simp[fU,p2]
         obtain ⟨m1,m2⟩:=hi.move (w' := w') (by omega) (o' := .arr i.size (es++q::u)) (l' := ⟨l.cd,l.base+off*l.sz,i.size,l.bz⟩) hg c3 M rfl r4 R T r5 r6 r7 (by
          refine⟨_,t', rfl,hsz', rfl,?_,?_,?_⟩
          · rw[hsz', K,←p2]
            have:(q::u).length*i.size=D.toList.length:=hxl2.symm
            rw[Nat.add_mul,this]
            show l.base+off*l.sz+(len*i.size+D.toList.length)≤c.size
            omega
          · intro e he
            rcases List.mem_append.1 he with k | k
            · rw[hes1] at k;rw[p5 e (List.mem_of_mem_drop (List.mem_of_mem_take k)),c4]
            · exact(jQ b1 k).1
          · intro H j e a y U f2 f3
            rw[List.getElem?_toArray,ia _ _ _ (by simp at hroom ⊢;omega)] at f3
            simp only[Nat.add_zero] at f3
            by_cases hi2:H<es.length
            · rw[List.getElem?_append_left hi2] at U
              have hi3:H<len:=by omega
              have f1' : es'[off+H]? = some e:=by
               rw[hes1,List.getElem?_take,if_pos hi3,List.getElem?_drop] at U;exact U
              have hj:j<i.size:=by rw[←c4,←p5 e (tl f1')];exact(List.getElem?_eq_some_iff.1 f2).1
              have hm:H*i.size+i.size≤len*i.size:=by
               have:(H+1)*i.size≤len*i.size:=u9 _ hi3
               rw[Nat.succ_mul] at this;exact this
              rw[if_neg (by omega)] at f3
              refine p6 (off+H) j e a y f1' f2 ?_
              rw[←Array.getElem?_toList,←f3];congr 1
              rw[L,c4,Nat.add_mul];omega
            · rw[List.getElem?_append_right (by omega)] at U
              have hi3:H-es.length<(q::u).length:=(List.getElem?_eq_some_iff.1 U).1
              have hj:j<i.size:=by rw[←(jQ b1 (tl U)).1];exact(List.getElem?_eq_some_iff.1 f2).1
              have hm:(H-es.length)*i.size+i.size≤D.toList.length:=by
               have:(H-es.length+1)*i.size≤(q::u).length*i.size:=u9 _ hi3
               rw[Nat.succ_mul] at this;rw[hxl2];exact this
              have hi4:H*i.size=len*i.size+(H-es.length)*i.size:=by
               rw[←Nat.add_mul];congr 1;omega
              rw[if_pos (by omega)] at f3
              refine Y.2.2 _ j e a y U f2 ?_
              rw[←Array.getElem?_toList,←f3];congr 1
              omega)
         refine⟨_,w', _,run_append_fits V W p (by omega) (Z w) (X w rfl) (by rw[Addr.nv];exact Q),?_,m1,m2⟩
         have hv:=VR.aj (g:=g.add S.nx ⟨l.cd,l.base+off*l.sz,i.size,l.bz⟩) (id:=S.nx) (off:=0) (len:=(es++q::u).length) (cap:=cap) (Gh.add_same _ _ _) (by rw[K];omega)
          (by
            show l.base+off*l.sz+(0+cap)*i.size=l.bz
            rw[Nat.add_mul,L,c4] at I
            rw[L,c4,Nat.zero_add];omega)
         rw[K] at hv ⊢
         rw[show(S.del id).nx=S.nx from rfl]
         simpa using hv
     · obtain⟨z,w', g', Q,R,T,r4⟩:=grow (S.del id) es sa f sc (hi.sub (af.DY aQ)) (by simpa using h) (by simp at c1 ⊢;omega) (by omega) (by rw[←A];exact hsr) hsE E
       exact⟨z,w', g', by rw[A];exact Q,R,T,(Ext.del aQ c3).trans r4⟩
   · rename_i v
     split at h<;>try (simp at h;done)
     rename_i es C
     split at h<;>try (simp at h;done)
     rename_i G
     simp only[Bool.and_eq_true] at G
     have c1:=eL G.1
     obtain⟨sa,f,sc,A,hsc,hsr,hsE,E⟩:=qU (P:=P) hi C N G.2
     cases N with | clip hv=>?_
     simp only[Value.slice.injEq] at A
     obtain⟨rfl,e2,e3⟩:=A
     subst e3
     subst e2
     obtain⟨z,w', g', Q,R,T,r4⟩:=grow S es _ _ sc hi h (by simp at c1 ⊢;omega) (by simp) hsr hsE E
     exact⟨z,w', g', Q,R,T,r4⟩
end
end Go.Eng
namespace Go.Eng
noncomputable section
def yn (P:Program)(S:af)(t:TypeId)(x:AV):Option Nat:=
 match P.underlying t,x with
 | some .string,.sc (.string s)=>some s.size
 | some (.array n _),_=>some n
 | some (.slice _),.lit es=>some es.length
 | some (.slice _),.aj _ _ n=>some n
 | some (.slice _),.eG=>some 0
 | some (.slice _),.an=>some 0
 | some (.map _ _),.sc (.map none)=>some 0
 | some (.map _ _),.dJ id=>match S.get id with
   | some (.mp c)=>some c.length
   | _=>none
 | _,_=>none
variable {P : Program} {S : af} {g : Gh} {w : World} {t ty : TypeId} {ts : List TypeId} {y : Value} {n : Nat}
theorem yD (hi:Inv S g w){x:AV}(h:yn P S t x=some n)(e:VR g x y) :
   (Builtin.len_ (t::ts).toArray ty #[y]).run P w=.ok (.int .i64 n) w:=by
 unfold yn at h
 split at h<;>(try simp only[ar,reduceCtorEq] at h)
 · rename_i c;subst h;cases e with | sc _=>simp[Builtin.len_,ag c,goInt]
 · rename_i c;subst h;cases y<;>simp[Builtin.len_,goInt,ag c]
 · rename_i c;subst h;cases e<;>simp[Builtin.len_,ag c,goInt]
 · rename_i c;subst h;cases e<;>simp[Builtin.len_,ag c,goInt]
 · rename_i c;subst h;cases e<;>simp[Builtin.len_,ag c,goInt]
 · rename_i c;subst h;cases e<;>simp[Builtin.len_,ag c,goInt]
 · rename_i c;subst h;cases e with | sc _=>simp[Builtin.len_,ag c,goInt]
 · rename_i id c
   split at h<;>simp only[ar,reduceCtorEq] at h
   rename_i s i
   subst h
   cases e with
   | dJ j=>
     obtain⟨l', f,u,o⟩:=hi.ob _ _ i
     rw[j] at f;simp only[ar] at f;subst f
     obtain⟨es,k,p,q,v⟩:=o
     simp[Builtin.len_,ag c,goInt,getObj,Sem.run,p,q]
def LH (P:Program)(t:TypeId)(x:AV):Option Nat:=
 match P.underlying t,x with
 | some (.slice _),.eG=>some 0
 | some (.slice _),.an=>some 0
 | _,_=>none
theorem F9 {x:AV}(h:LH P t x=some n)(f:VR g x y) :
   (Builtin.cap_ (t::ts).toArray ty #[y]).run P w=.ok (.int .i64 n) w:=by
 unfold LH at h
 split at h<;>simp only[ar,reduceCtorEq] at h
 · rename_i e c
   subst h
   cases f
   simp[Builtin.cap_,ag c,goInt]
 · rename_i e c
   subst h
   cases f
   simp[Builtin.cap_,ag c,goInt]
def uO (P:Program)(t:TypeId)(a c:AV):Option AV:=
 match P.underlying t,a,tK c with
 | some (.array len el),.agg cs,some k=>match Nat.ble (k+1) len,pT P el with
   | true,some n=>Au P el cs (k*n)
   | _,_=>none
 | some .string,.sc (.string s),some k=>match s[k]? with
   | some b=>some (.sc (.int .u8 b.toNat))
   | none=>none
 | _,_,_=>none
variable {x : Value} {a r : AV}
theorem BY {j:AV}(h:uO P t a j=some r)(o:VR g a x)(hx:VR g j y):∃ z,(Instr.index t x y).run P w=.ok z w∧VR g r z:=by
 unfold uO at h
 split at h<;>try (simp at h;done)
 · rename_i len el cs k f i
   obtain⟨p,rfl⟩:=gJ i hx
   split at h<;>try (simp at h;done)
   rename_i n c q
   have c:=eL c
   cases o with
   | agg u hh=>
     obtain⟨z,e,v⟩:=tE (P:=P) (w:=w) h ⟨u,hh⟩
     refine⟨z,?_,v⟩
     simp only[Instr.index,asIntOf,Sem.run_bind,Sem.run_pure,Result.andThen_ok,ag f]
     rw[if_pos (by constructor<;>simp;omega)]
     simp only[Sem.run_bind,run_sizeOf q,Result.andThen_ok]
     exact e
 · rename_i s k f i
   obtain⟨p,rfl⟩:=gJ i hx
   split at h<;>simp only[ar,reduceCtorEq] at h
   rename_i b A
   subst h
   cases o with
   | sc _=>exact⟨_,by simp[Instr.index,asIntOf,ag f,A],.sc rfl⟩
def CC (isMax:Bool):List AV→Option AV
 | [.sc (.int .i64 a)]=>some (.sc (.int .i64 a))
 | [.sc (.int k a),.sc (.int c b)]=>if k=c then some (.sc (.int k (match isMax with
  | true=>if b>a then b else a
  | false=>if b<a then b else a))) else none
 | _=>none
def DF (P:Program)(S:af)(ts:List TypeId)(d x:AV):Option (Nat×af):=
 match ts with
 | t::_=>match P.underlying t,d with
   | some (.slice el),.aj id off len=>match S.get id,gH S x,pT P el with
     | some (.arr sz es),some xs,some n=>match Nat.beq sz n&&Nat.ble S.lim id&&Nat.ble (off+len) es.length&&sized n xs with
       | true=>some (min xs.length len,S.set id (.arr sz (j5 es off (xs.take (min xs.length len)))))
       | false=>none
     | _,_,_=>none
   | _,_=>none
 | _=>none
variable {l : List AV} {xs : Array Value}
theorem Ga {ts:Array TypeId}(h:CC true l=some r)(f:fG g l xs):∃ z,(Builtin.max_ ts t xs).run P w=.ok z w∧VR g r z:=by
 unfold CC at h
 split at h<;>try (simp at h;done)
 · obtain⟨x,e,hx⟩:=f.get (k:=0) rfl
   have i:xs.size=1:=f.1.symm
   have c:xs.toList=[x]:=by
    apply List.ext_getElem?;intro k
    match k with
    | 0=>simpa using e
    | k+1=>rw[List.getElem?_eq_none (by simp[i])];simp
   simp only[ar] at h;subst h
   cases hx with | sc _=>exact⟨_,by simp[Builtin.max_,c],.sc rfl⟩
 · obtain⟨x,e,hx⟩:=f.get (k:=0) rfl
   obtain⟨y,j,o⟩:=f.get (k:=1) rfl
   have i:xs.size=2:=f.1.symm
   have c:xs.toList=[x,y]:=by
    apply List.ext_getElem?;intro k
    match k with
    | 0=>simpa using e
    | 1=>simpa using j
    | k+2=>rw[List.getElem?_eq_none (by simp[i])];simp
   split at h<;>simp only[ar,reduceCtorEq] at h
   rename_i p;subst p;subst h
   cases hx with | sc _=>?_
   cases o with | sc _=>?_
   exact⟨_,by simp[Builtin.max_,c,Builtin.max2],.sc rfl⟩
theorem Gb {ts:Array TypeId}(h:CC false l=some r)(f:fG g l xs):∃ z,(Builtin.min_ ts t xs).run P w=.ok z w∧VR g r z:=by
 unfold CC at h
 split at h<;>try (simp at h;done)
 · obtain⟨x,e,hx⟩:=f.get (k:=0) rfl
   have i:xs.size=1:=f.1.symm
   have c:xs.toList=[x]:=by
    apply List.ext_getElem?;intro k
    match k with
    | 0=>simpa using e
    | k+1=>rw[List.getElem?_eq_none (by simp[i])];simp
   simp only[ar] at h;subst h
   cases hx with | sc _=>exact⟨_,by simp[Builtin.min_,c],.sc rfl⟩
 · obtain⟨x,e,hx⟩:=f.get (k:=0) rfl
   obtain⟨y,j,o⟩:=f.get (k:=1) rfl
   have i:xs.size=2:=f.1.symm
   have c:xs.toList=[x,y]:=by
    apply List.ext_getElem?;intro k
    match k with
    | 0=>simpa using e
    | 1=>simpa using j
    | k+2=>rw[List.getElem?_eq_none (by simp[i])];simp
   split at h<;>simp only[ar,reduceCtorEq] at h
   rename_i p;subst p;subst h
   cases hx with | sc _=>?_
   cases o with | sc _=>?_
   exact⟨_,by simp[Builtin.min_,c,Builtin.min2],.sc rfl⟩
theorem pw.take {g:Gh}{n:Nat}{es:List AV}{c:Array Value}(h:pw g n es c)(k:Nat):pw g n (es.take k) c:=
 ⟨Nat.le_trans (u9 _ (by simp;omega)) h.1,fun e o=>h.2.1 e (List.mem_of_mem_take o),fun i j e a y f p q=>by
  rw[List.getElem?_take] at f
  split at f
  · exact h.2.2 i j e a y f p q
  · simp at f⟩
variable {es : List AV}
theorem FA {x:AV}{a:Option Addr}{f k:Nat}(h:pY S x=some es)(q:VR g x (.slice a n f))(p:k≤es.length)(A:k≤f):∃ x', gH S x' = some (es.take k)∧VR g x' (.slice a k f):=by
 unfold pY at h
 split at h<;>try (simp at h;done)
 · simp only[ar] at h;subst h
   refine⟨.lit (List.take k _),rfl,?_⟩
   cases q with
   | gG=>simp at p;subst p;exact .gG
   | lit F G u D hh=>
     rename_i es b o sz c
     have v:(es.take k).length=k:=by simp;omega
     have:=VR.lit (g:=g) (es:=es.take k) (cap:=f) F (sz:=sz) (fun e H=>G e (List.mem_of_mem_take H)) (Nat.le_trans (Nat.add_le_add_left (u9 _ (by omega)) _) u) (by omega)
      (fun i j e a x s I J=>by
       rw[List.getElem?_take] at s
       split at s
       · exact hh i j e a x s I J
       · simp at s)
     rw[v] at this;exact this
 · rename_i id off len
   split at h<;>try (simp at h;done)
   rename_i sz es' K
   split at h<;>simp only[ar,reduceCtorEq] at h
   rename_i B
   have E:=eL B
   subst h
   have v:((es'.drop off).take len).length=len:=by simp;omega
   rw[v] at p
   refine⟨.aj id off k,?_,?_⟩
   · simp only[gH,pY,K]
     rw[show(off+k).ble es'.length=true from tn (by omega)]
     simp only[ar]
     rw[List.take_take,Nat.min_eq_left p]
   · cases q with
     | ga L M=>simp at p;subst p;exact .ga L M
     | aj C N u=>exact .aj C A u
 · simp only[ar] at h;subst h
   simp at p;subst p
   cases q with | an=>exact⟨.an,rfl,.an⟩
 · simp only[ar] at h;subst h
   simp at p;subst p
   cases q with | eG=>exact⟨.eG,rfl,.eG⟩
variable {cap : Nat}
theorem IM {x:AV}{a:Option Addr}(h:pY S x=some es)(e:VR g x (.slice a n cap)):es.length=n∧n≤cap:=by
 unfold pY at h
 split at h<;>try (simp at h;done)
 · simp only[ar] at h;subst h
   cases e with
   | gG=>exact⟨rfl,Nat.zero_le _⟩
   | lit q s j c hh=>exact⟨rfl,c⟩
 · split at h<;>try (simp at h;done)
   split at h<;>simp only[ar,reduceCtorEq] at h
   rename_i f
   have i:=eL f
   subst h
   cases e with
   | ga=>exact⟨by simp,Nat.zero_le _⟩
   | aj p o j=>exact⟨by simp;omega,o⟩
 · simp only[ar] at h;subst h
   cases e with | an=>exact⟨rfl,Nat.le_refl _⟩
 · simp only[ar] at h;subst h
   cases e with | eG=>exact⟨rfl,Nat.le_refl _⟩
theorem O1 {x:AV}{a:Option Addr}{k:Nat}(h:gH S x=some es)(c:VR g x (.slice a n cap))(e:k≤es.length):∃ x' c', gH S x' = some (es.take k)∧VR g x' (.slice a k c'):=by
 unfold gH at h
 split at h
 · cases c with | clip c=>?_
   obtain⟨f,i⟩:=IM h c
   obtain⟨x', p,q⟩:=FA h c e (by omega)
   exact⟨x', _,p,q⟩
 · obtain⟨f,i⟩:=IM h c
   obtain⟨x', p,q⟩:=FA h c e (by omega)
   exact⟨x', _,p,q⟩
variable {S' : af}
theorem Ei (hi:Inv S g w){d x:AV}{dv xv:Value}(h:DF P S ts d x=some (n,S'))(hd:VR g d dv)(hx:VR g x xv) :
   ∃ w', (Builtin.copy_ ts.toArray t #[dv,xv]).run P w=.ok (.int .i64 n) w' ∧ Inv S' g w' ∧ Ext S g w S' g w' := by
 unfold DF at h
 split at h<;>try (simp at h;done)
 rename_i st ts
 split at h<;>try (simp at h;done)
 rename_i el id off len I
 split at h<;>try (simp at h;done)
 rename_i sz es xs sn F J K
 split at h<;>simp only[ar,iy,reduceCtorEq] at h
 rename_i hb
 simp only[Bool.and_eq_true] at hb
 obtain⟨⟨⟨W,T⟩,b3⟩,b4⟩:=hb
 have W:=jK W
 have T:=eL T
 have b3:=eL b3
 obtain⟨rfl,rfl⟩:=h
 subst W
 have q:sized sz (xs.take (min xs.length len))=true:=List.all_eq_true.2 fun e X=>List.all_eq_true.1 b4 e (List.mem_of_mem_take X)
 have f:(xs.take (min xs.length len)).length=min xs.length len:=by simp
 obtain⟨Y,s,xc,hxe,hxcap,_,_,_⟩:=qU (P:=P) hi J hx b4
 subst hxe
 obtain⟨x', c', hx1,hx2⟩:=O1 (k:=min xs.length len) J hx (Nat.min_le_left _ _)
 obtain⟨ya,ycap,cc,A,hycap,L,M,p⟩:=qU (P:=P) hi hx1 hx2 q
 rw[f] at A L p
 simp only[Value.slice.injEq] at A
 obtain⟨rfl,_,rfl⟩:=A
 have B:(Builtin.firstCells sz (min xs.length len) (.slice Y xs.length s)).run P w=.ok cc w:=by
   rw[←L w rfl];cases Y<;>rfl
 have u:(Builtin.lenOf (.slice Y xs.length s)).run P w=.ok xs.length w:=rfl
 cases hd with
 | ga=>
   rename_i a
   have h0:min xs.length 0=0:=Nat.min_zero _
   rw[h0] at B p ⊢
   have:cc = #[]:=Array.eq_empty_of_size_eq_zero (by rw[p];simp)
   subst this
   refine⟨w,?_,?_⟩
   · simp only[Builtin.copy_,List.getElem?_toArray,List.getElem?_cons_zero,List.getElem?_cons_succ,Sem.run_bind,ag I,Result.andThen_ok,u,run_sizeOf K]
     show((Builtin.firstCells sz (Nat.min xs.length 0) _).run P w).andThen _=_
     rw[show Nat.min xs.length 0=0 from h0,B]
     simp[storeCells,goInt]
   · have e0:j5 es off (xs.take 0)=es:=by cases es<;>rfl
     rw[e0]
     have aQ:=af.dY F
     obtain⟨l,G,q2,Z⟩:=hi.ob _ _ F
     obtain⟨c,U,p1,p2⟩:=Z
     exact hi.j2 F T G rfl p1 (fun _ _=>rfl) rfl ⟨rfl,Nat.le_refl _⟩ rfl ⟨c,U,rfl,p2⟩
 | aj hl hcap hbz=>
   rename_i cap l
   obtain⟨l', G,q2,Z⟩:=hi.ob _ _ F
   rw[hl] at G;simp only[ar] at G;subst G
   obtain⟨c,U,p1,p2,H,p4,p5,p6⟩:=Z
   have N:cc.toList.length=min xs.length len*sz:=by rw[show cc.toList.length=cc.size from Array.length_toList];exact p
   have hroom:l.base+off*l.sz+cc.toList.length≤c.size:=by
     rw[N,H]
     have:(off+min xs.length len)*sz≤es.length*sz:=u9 _ (by omega)
     rw[Nat.add_mul] at this;omega
   have R:∀ y,y∈cc.toList→y.oneCell' = true:=by
     intro y hy
     obtain⟨k,D⟩:=List.getElem?_of_mem hy
     have O:cc[k]? = some y:=by simpa using D
     have C:k<min xs.length len*sz:=by rw[←p];exact(Array.getElem?_eq_some_iff.1 O).1
     have hsp:0<sz:=by
       rcases Nat.eq_zero_or_pos sz with e | e
       · rw[e] at C;simp at C
       · exact e
     have h1:k/sz<(xs.take (min xs.length len)).length:=by rw[f];exact Nat.div_lt_of_lt_mul (by rw[Nat.mul_comm];exact C)
     have h2:k%sz<sz:=Nat.mod_lt _ hsp
     obtain⟨s1,s2⟩:=jQ q (List.getElem_mem h1)
     have h3:k%sz<(xs.take (min xs.length len))[k/sz].cells.length:=by rw[s1];exact h2
     refine nC (List.all_eq_true.1 s2 _ (List.getElem_mem h3)) (M.2.2 _ _ _ _ y (oe h1) (oe h3) ?_)
     rw[←O];congr 1;rw[Nat.mul_comm];exact Nat.div_add_mod k sz
   obtain⟨w', r1,r2,r3,r4,r5,r6,r7⟩:=nJ (P:=P) (b:=l.cd) (o:=l.base+off*l.sz) (t:=U) cc.toList w c 0 p1 (by omega) R
   refine⟨w', ?_,?_⟩
   · simp only[Builtin.copy_,List.getElem?_toArray,List.getElem?_cons_zero,List.getElem?_cons_succ,Sem.run_bind,ag I,Result.andThen_ok,u,run_sizeOf K]
     show((Builtin.firstCells sz (min xs.length len) _).run P w).andThen _=_
     rw[B]
     simp only[Result.andThen_ok,r1,Sem.run_pure]
     rfl
   · refine hi.j2 F T hl r4 r2 r3 r5 r6 r7 ⟨_,U,rfl,by simp[fU,p2],H,by simp[fU];exact p4,?_,?_⟩
     · intro e X
       obtain⟨k,D⟩:=List.getElem?_of_mem X
       rw[ia _ _ _ (by rw[f];omega)] at D
       split at D
       · exact(jQ q (tl D)).1
       · exact p5 e (tl D)
     · intro i j e a y v V E
       rw[ia _ _ _ (by rw[f];omega),f] at v
       rw[List.getElem?_toArray,ia _ _ _ (by omega),N] at E
       simp only[Nat.add_zero] at E
       by_cases Q:off≤i∧i<off+min xs.length len
       · rw[if_pos Q] at v
         have hj:j<sz:=by rw[←(jQ q (tl v)).1];exact(List.getElem?_eq_some_iff.1 V).1
         have hm:(i-off)*sz+sz≤min xs.length len*sz:=by
          have:(i-off+1)*sz≤min xs.length len*sz:=u9 _ (by omega)
          rw[Nat.succ_mul] at this;exact this
         have hio:i*sz=off*sz+(i-off)*sz:=by rw[←Nat.add_mul];congr 1;omega
         rw[if_pos (by rw[H];omega)] at E
         refine M.2.2 _ j e a y v V ?_
         rw[←Array.getElem?_toList,←E];congr 1;rw[H];omega
       · rw[if_neg Q] at v
         have hj:j<sz:=by rw[←p5 e (tl v)];exact(List.getElem?_eq_some_iff.1 V).1
         have hne:¬ (l.base+off*l.sz≤l.base+i*sz+j∧l.base+i*sz+j<l.base+off*l.sz+min xs.length len*sz):=by
          rw[H]
          rintro⟨c1,c2⟩
          rcases Nat.lt_or_ge i off with hlt | hge
          · have:(i+1)*sz≤off*sz:=u9 _ hlt
            rw[Nat.succ_mul] at this;omega
          · have:(off+min xs.length len)*sz≤i*sz:=u9 _ (by omega)
            rw[Nat.add_mul] at this;omega
         rw[if_neg hne] at E
         exact p6 i j e a y v V (by simpa using E)
def DZ (P:Program)(S:af)(ts:List TypeId)(x:AV):Option af:=
 match ts with
 | t::_=>match P.underlying t,x with
   | some (.slice el),.aj id off len=>match iC P el,S.get id with
     | some z,some (.arr sz es)=>match Nat.beq z.cells.length sz&&z.cells.all dj&&Nat.ble S.lim id&&Nat.ble (off+len) es.length with
       | true=>some (S.set id (.arr sz (j5 es off (List.replicate len z))))
       | false=>none
     | _,_=>none
   | _,_=>none
 | _=>none
theorem BZ (hi:Inv S g w){x:AV}(h:DZ P S ts x=some S')(hx:VR g x y) :
   ∃ w', (Builtin.clear_ ts.toArray ty #[y]).run P w=.ok (.tuple #[]) w' ∧ Inv S' g w' ∧ Ext S g w S' g w' := by
 unfold DZ at h
 split at h<;>try (simp at h;done)
 rename_i t ts
 split at h<;>try (simp at h;done)
 rename_i el id off len B
 split at h<;>try (simp at h;done)
 rename_i z sz es M o
 split at h<;>simp only[ar,reduceCtorEq] at h
 rename_i I
 simp only[Bool.and_eq_true] at I
 obtain⟨⟨⟨p,J⟩,i⟩,C⟩:=I
 have p:=jK p
 have i:=eL i
 have C:=eL C
 subst h
 obtain⟨D,G,H⟩:=jk (P:=P) (w:=w) (g:=g) M
 have j:=jP H J
 have f:D.cells.size=sz:=by rw[←j.1,p]
 obtain⟨l,q,W,E⟩:=hi.ob _ _ o
 have N:pw g sz (List.replicate len z) (Builtin.zeroCells D.cells len):=by
   have:=wY (n:=len) (m:=len) j (Nat.le_refl _)
   rw[f] at this
   simpa [Builtin.zeroCells,f] using this
 obtain ⟨w', O,Q,R⟩:=AN (P:=P) (off:=off) (xs:=List.replicate len z) (cc:=Builtin.zeroCells D.cells len) hi o i q
   (List.all_eq_true.2 fun e T=>by rw[(List.mem_replicate.1 T).2];simp[p,J]) N (by simp[Builtin.zeroCells,f]) (by simpa using C)
 have K:len=0→j5 es off (List.replicate len z)=es:=by
   intro h0;subst h0;cases es<;>rfl
 cases hx with
 | ga s U=>
   refine⟨w,by simp[Builtin.clear_,ag B],?_⟩
   rw[K rfl]
   obtain⟨c,u,v,A⟩:=E
   exact hi.j2 o i q rfl v (fun _ _=>rfl) rfl ⟨rfl,Nat.le_refl _⟩ rfl ⟨c,u,rfl,A⟩
 | aj s L V=>
   rename_i cap X
   rw[q] at s;simp only[ar] at s;subst s
   have F:l.sz=sz:=by obtain⟨c,u,v,A,F,_⟩:=E;exact F
   cases len with
   | zero=>
     refine⟨w,by simp[Builtin.clear_,ag B],?_⟩
     rw[K rfl]
     obtain⟨c,u,v,A⟩:=E
     exact hi.j2 o i q rfl v (fun _ _=>rfl) rfl ⟨rfl,Nat.le_refl _⟩ rfl ⟨c,u,rfl,A⟩
   | succ k=>
     refine⟨w', ?_,Q,R⟩
     rw[F]
     simp[Builtin.clear_,ag B,G,O]
def NG (d:TypeDesc)(a b:AV):Option Bool:=
 match d,a,b with
 | .int _,.sc (.int k x),.sc (.int c y)=>if k=c then some (x==y) else none
 | .string,.sc (.string x),.sc (.string y)=>some (x.data.toList==y.data.toList)
 | .bool,.sc (.bool x),.sc (.bool y)=>some (x==y)
 | _,_,_=>none
def lW (d:TypeDesc)(k:AV):List (AV×AV)→Nat→Option (Option (Nat×AV))
 | [],_=>some none
 | c::r,i=>match NG d k c.1 with
   | some true=>some (some (i,c.2))
   | some false=>lW d k r (i+1)
   | none=>none
def ij (d:TypeDesc):Bool:=
 match d with
 | .int _=>true
 | .string=>true
 | .bool=>true
 | _=>false
variable {d : TypeDesc} {b : AV}
theorem CW {r:Bool}(h:NG d a b=some r)(c:VR g a x)(e:VR g b y):Instr.sameNow d x y=some r:=by
 unfold NG at h
 split at h<;>try (simp at h;done)
 · cases c with | sc _=>?_
   cases e with | sc _=>?_
   split at h<;>simp only[ar,reduceCtorEq] at h
   rename_i f;subst f;subst h;simp[Instr.sameNow]
 · cases c with | sc _=>?_
   cases e with | sc _=>?_
   simp only[ar] at h;subst h
   simp only[Instr.sameNow,ar]
   rw[beq_toListBytes,ByteArray.toList_eq,ByteArray.toList_eq]
 · cases c with | sc _=>?_
   cases e with | sc _=>?_
   simp only[ar] at h;subst h;simp[Instr.sameNow]
variable {k : AV}
theorem qH (C:VR g k x):∀ {c:List (AV×AV)} {es:List MapEntry} {i:Nat} {r:Option (Nat×AV)},lW d k c i=some r→es.length=c.length →
   (∀(j:Nat) (f:AV×AV) (e:MapEntry),c[j]? = some f→es[j]? = some e→VR g f.1 e.key∧VR g f.2 e.val) →
   ∃ q,Instr.findNow d x es i=some q∧(match r,q with
     | none,none=>True
     | some (j,v),some (D,y)=>j=D∧VR g v y∧i≤j∧j<i+c.length∧(∃ f e,c[j-i]? = some f∧es[j-i]? = some e∧NG d k f.1=some true)
     | _,_=>False):=by
 intro c
 induction c with
 | nil=>
   intro es i r h s _
   simp only[lW,ar] at h;subst h
   have:es=[]:=List.eq_nil_of_length_eq_zero (by simpa using s)
   subst this
   exact⟨none,rfl,trivial⟩
 | cons f c G=>
   intro es i r h s E
   cases es with
   | nil=>simp at s
   | cons e es=>
     have h0:=E 0 f e rfl rfl
     simp only[lW] at h
     split at h<;>try (simp at h;done)
     · rename_i u
       simp only[ar] at h;subst h
       refine⟨some (i,e.val),?_,rfl,h0.2,Nat.le_refl _,by simp,f,e,by simp,by simp,u⟩
       simp only[Instr.findNow,CW u C h0.1]
     · rename_i u
       obtain⟨q,H,A⟩:=G h (by simpa using s) (fun j o B p I=>E (j+1) o B (by simpa using p) (by simpa using I))
       refine⟨q,by simp only[Instr.findNow,CW u C h0.1];exact H,?_⟩
       cases r with
       | none=>cases q with
         | none=>trivial
         | some _=>exact A.elim
       | some J=>
         obtain⟨j,v⟩:=J
         cases q with
         | none=>exact A.elim
         | some K=>
           obtain⟨D,y⟩:=K
           obtain⟨L,a2,a3,a4,o,B,a5,M,N⟩:=A
           have F:j-i=(j-(i+1))+1:=by omega
           exact⟨L,a2,by omega,by simp;omega,o,B,by rw[F];simpa using a5,by rw[F];simpa using M,N⟩
variable {kt : TypeId}
theorem B0 {b:Bool}(c:P.underlying kt=some d)(e:ij d=true):(Instr.checkKey b (n+1) kt x).run P w=.ok () w:=by
 simp only[Instr.checkKey,Sem.run_bind,ag c,Result.andThen_ok]
 cases d<;>first
  | (simp[ij] at e;done)
  | (cases x<;>rfl)
theorem run_checkKey {b:Bool}(c:P.underlying kt=some d)(e:ij d=true):(Instr.checkKey b 10000 kt x).run P w=.ok () w:=
 B0 (n:=9999) c e
theorem run_findKey {es:List MapEntry}{q:Option (Nat×Value)}(c:P.underlying kt=some d)(h:Instr.findNow d x es 0=some q) :
  (Instr.findKey kt x es).run P w=.ok q w:=by
 simp only[Instr.findKey,Sem.run_bind,ag c,Result.andThen_ok,h,Sem.run_pure]
def iD (P:Program)(S:af)(t:TypeId)(m k:AV)(ok:Bool):Option AV:=
 match P.underlying t with
 | some (.map kt e)=>match P.underlying kt,(match m with
     | .dJ id=>match S.get id with
       | some (.mp c)=>some c
       | _=>none
     | .sc (.map none)=>some []
     | _=>none) with
   | some d,some c=>match ij d,lW d k c 0 with
     | true,some (some (_,v))=>some (match ok with
       | true=>.bm [v,.sc (.bool true)]
       | false=>v)
     | true,some none=>match iC P e with
       | some z=>some (match ok with
         | true=>.bm [z,.sc (.bool false)]
         | false=>z)
       | none=>none
     | _,_=>none
   | _,_=>none
 | _=>none
theorem fG.two (h:VR g a x)(c:VR g b y):fG g [a,b] #[x,y]:=fG.cons (xs:=[y]) h (fG.cons (xs:=[]) c (fG.nil g))
theorem VR.two {g:Gh}{a b:AV}{x y:Value}(h:VR g a x)(c:VR g b y):VR g (.bm [a,b]) (.tuple #[x,y]):=.bm (fG.two h c).1 (fG.two h c).2
variable {m : AV}
theorem Xm (hi:Inv S g w){c:List (AV×AV)}(h:(match m with
     | .dJ id=>match S.get id with
       | some (.mp c)=>some c
       | _=>none
     | .sc (.map none)=>some []
     | _=>none)=some c)(o:VR g m x):∃ es:Array MapEntry,((x=.map none∧es = #[])∨∃ r ck,x=.map (some r)∧w.heap[r]? = some (.map es ck))∧es.toList.length=c.length∧(∀(j:Nat) (f:AV×AV) (e:MapEntry),c[j]? = some f→es.toList[j]? = some e→VR g f.1 e.key∧VR g f.2 e.val):=by
 split at h<;>try (simp at h;done)
 · split at h<;>simp only[ar,reduceCtorEq] at h
   rename_i p q
   subst h
   cases o with
   | dJ s=>
     obtain⟨l', i,C,u⟩:=hi.ob _ _ q
     rw[s] at i;simp only[ar] at i;subst i
     obtain⟨es,k,v,A,B,_⟩:=u
     exact⟨es,.inr ⟨_,k,rfl,v⟩,by simpa using A,fun j f e a b=>B j f e a (by simpa using b)⟩
 · simp only[ar] at h;subst h
   cases o with | sc _=>exact⟨#[],.inl ⟨rfl,rfl⟩,by simp,by simp⟩
variable {ok : Bool}
theorem Bc (hi:Inv S g w)(h:iD P S t m k ok=some r)(G:VR g m x)(A:VR g k y) :
   ∃ z,(Instr.lookup t x y ok).run P w=.ok z w∧VR g r z:=by
 unfold iD at h
 split at h<;>try (simp at h;done)
 rename_i kt K B
 split at h<;>try (simp at h;done)
 rename_i d I f u
 obtain⟨es,j,C,D⟩:=Xm hi u G
 split at h<;>try (simp at h;done)
 · rename_i i v c p
   simp only[ar] at h
   obtain⟨q,s,o⟩:=qH A p C D
   cases q with
   | none=>exact o.elim
   | some E=>
     obtain⟨L,z⟩:=E
     obtain⟨M,a2,_⟩:=o
     refine⟨if ok then .tuple #[z,.bool true] else z,?_,?_⟩
     · rcases j with⟨rfl,rfl⟩ | ⟨rr,ck,rfl,j⟩ <;>
        simp only[Instr.lookup,Sem.run_bind,ag B,Result.andThen_ok,getObj,Sem.run,Sem.run_pure, *, run_checkKey f c,run_findKey f s]
     · subst h;cases ok
       · exact a2
       · exact VR.two a2 (.sc rfl)
 · rename_i c p
   split at h<;>simp only[ar,reduceCtorEq] at h
   rename_i z H
   obtain⟨F,J,e⟩:=jk (P:=P) (w:=w) (g:=g) H
   obtain⟨q,s,o⟩:=qH A p C D
   cases q with
   | some E=>exact o.elim
   | none=>
     refine⟨if ok then .tuple #[F,.bool false] else F,?_,?_⟩
     · rcases j with⟨rfl,rfl⟩ | ⟨rr,ck,rfl,j⟩ <;>
        simp only[Instr.lookup,Sem.run_bind,ag B,Result.andThen_ok,getObj,Sem.run,Sem.run_pure, *, run_checkKey f c,run_findKey f s]
     · subst h;cases ok
       · exact e
       · exact VR.two e (.sc rfl)
def aqS : AV→Bool
 | .sc _=>true
 | _=>false
def lh (P:Program)(S:af)(t:TypeId)(m k v:AV):Option af:=
 match P.underlying t,m with
 | some (.map kt _),.dJ id=>match P.underlying kt,S.get id with
   | some d,some (.mp c)=>match ij d&&Nat.ble S.lim id,lW d k c 0 with
     | true,some (some (i,_))=>some (S.set id (.mp (c.set i (k,v))))
     | true,some none=>some (S.set id (.mp (c++[(k,v)])))
     | _,_=>none
   | _,_=>none
 | _,_=>none
theorem Mw (h:NG d a b=some true)(c:VR g a x)(e:VR g b y):Instr.sameBits 10000 y x=true:=by
 unfold NG at h
 split at h<;>try (simp at h;done)
 · cases c with | sc _=>?_
   cases e with | sc _=>?_
   split at h<;>simp only[ar,reduceCtorEq] at h
   rename_i f;subst f;simp at h;subst h;simp[Instr.sameBits]
 · cases c with | sc _=>?_
   cases e with | sc _=>?_
   rename_i xs ys _ _
   simp only[ar] at h
   have:(ys==xs)=true:=by rw[beq_toListBytes,ByteArray.toList_eq,ByteArray.toList_eq];simp at h ⊢;exact h.symm
   simpa [Instr.sameBits] using this
 · cases c with | sc _=>?_
   cases e with | sc _=>?_
   simp at h;subst h;simp[Instr.sameBits]
variable {z : Value}
theorem uJ (hi:Inv S g w){v:AV}(h:lh P S t m k v=some S')(hm:VR g m x)(C:VR g k y)(Y:VR g v z) :
   ∃ w', (Instr.mapUpdate t x y z).run P w=.ok () w' ∧ Inv S' g w' ∧ Ext S g w S' g w' := by
 unfold lh at h
 split at h<;>try (simp at h;done)
 rename_i kt et id Z
 split at h<;>try (simp at h;done)
 rename_i d I K N
 cases hm with
 | dJ O=>
   rename_i l
   obtain⟨l', Q,q2,q3⟩:=hi.ob _ _ N
   rw[O] at Q;simp only[ar] at Q;subst Q
   obtain⟨es,ck,R,H,L,T,U⟩:=q3
   have J:∀(j:Nat) (D:AV×AV) (e:MapEntry),I[j]? = some D→es.toList[j]? = some e→VR g D.1 e.key∧VR g D.2 e.val:=fun j D e a b=>L j D e a (by simpa using b)
   have X:=(Array.getElem?_eq_some_iff.1 R).1
   have A:∀(o:Obj) (k:Nat),k≠l.cd→(w.heap.setIfInBounds l.cd o)[k]? = w.heap[k]? := by
     intro o k C;rw[Array.getElem?_setIfInBounds,if_neg (Ne.symm C)]
   have B:∀ o:Obj,(w.heap.setIfInBounds l.cd o)[l.cd]? = some o:=by
     intro o;rw[Array.getElem?_setIfInBounds,if_pos rfl,if_pos X]
   split at h<;>try (simp at h;done)
   · rename_i i v0 f V
     simp only[Bool.and_eq_true] at f
     simp only[ar] at h;subst h
     obtain⟨q,W,M⟩:=qH C V (by simpa using H) J
     cases q with
     | none=>exact M.elim
     | some qv=>
       obtain⟨j', y'⟩:=qv
       obtain⟨rfl,a2,a3,a4,D,e,a5,a6,a7⟩:=M
       simp only[Nat.sub_zero] at a5 a6
       have u:es[i]? = some e:=by simpa using a6
       have G:=Mw a7 C (L i D e a5 u).1
       refine⟨{ w with heap:=w.heap.setIfInBounds l.cd (.map (es.modify i fun e=>{ e with key:=y,val:=z }) ck) },?_,?_⟩
       · simp only[Instr.mapUpdate,Sem.run_bind,ag Z,Result.andThen_ok,getObj,Sem.run,R,run_checkKey K f.1,run_findKey K W,u,Option.map_some,Option.getD_some,Instr.keyThatStays,G,if_true,Sem.run_pure,setObj]
       · refine hi.j2 N (eL f.2) O (by simp) (B _) (A _) rfl ⟨rfl,Nat.le_refl _⟩ rfl ⟨_,ck,rfl,by simp[H],?_,by simpa using T,fun j E c=>by
           rw[Array.getElem?_modify] at c
           by_cases s:i=j
           · subst s
             rw[if_pos rfl,u] at c
             simp only[Option.map_some,ar] at c
             subst c;exact U i e u
           · rw[if_neg s] at c
             exact U j E c⟩
         intro j F E p c
         rw[Array.getElem?_modify] at c
         rw[List.getElem?_set] at p
         by_cases s:i=j
         · subst s
           rw[if_pos rfl,u] at c
           rw[if_pos rfl,if_pos (by omega)] at p
           simp only[Option.map_some,ar] at p c
           subst p;subst c;exact⟨C,Y⟩
         · rw[if_neg s] at p c
           exact L j F E p c
   · rename_i f V
     simp only[Bool.and_eq_true] at f
     simp only[ar] at h;subst h
     obtain⟨q,W,M⟩:=qH C V (by simpa using H) J
     cases q with
     | some qv=>exact M.elim
     | none=>
       refine⟨{ w with heap:=w.heap.setIfInBounds l.cd (.map (es.push { key:=y,val:=z,born:=ck }) (ck+1)) },?_,?_⟩
       · simp only[Instr.mapUpdate,Sem.run_bind,ag Z,Result.andThen_ok,getObj,Sem.run,R,run_checkKey K f.1,run_findKey K W,setObj]
       · refine hi.j2 N (eL f.2) O (by simp) (B _) (A _) rfl ⟨rfl,Nat.le_refl _⟩ rfl ⟨_,ck+1,rfl,by simp[H],?_,by simp[T],fun j E c=>by
           rw[Array.getElem?_push] at c
           by_cases s:j=es.size
           · subst s
             rw[if_pos rfl] at c
             simp only[ar] at c
             subst c;exact T
           · rw[if_neg s] at c
             exact U j E c⟩
         intro j F E p c
         rw[Array.getElem?_push] at c
         by_cases s:j=es.size
         · subst s
           rw[if_pos rfl] at c
           rw[H,List.getElem?_append_right (Nat.le_refl _)] at p
           simp at p c
           subst p;subst c;exact⟨C,Y⟩
         · rw[if_neg s] at c
           have:j<I.length:=by rw[←H];exact(Array.getElem?_eq_some_iff.1 c).1
           rw[List.getElem?_append_left this] at p
           exact L j F E p c
def uW (S:af):Option (AV×af):=
 match Nat.ble (S.nx+1) 8192&&Nat.ble S.lim S.nx with
 | true=>some (.dJ S.nx,S.add (.mp []))
 | false=>none
theorem zk (hi:Inv S g w)(h:uW S=some (r,S')) :
  ∃ z w' g', (Instr.makeMap t none).run P w=.ok z w' ∧ VR g' r z∧Inv S' g' w' ∧ Ext S g w S' g' w' := by
 unfold uW at h
 split at h<;>simp only[ar,iy,reduceCtorEq] at h
 rename_i c
 obtain⟨rfl,rfl⟩:=h
 simp only[Bool.and_eq_true] at c
 have c2:=eL c.1
 have c3:=eL c.2
 obtain⟨e,f⟩:=hi.alloc (w' := w.alloc (.map #[] 0)) (by omega) (o:=.mp []) (ob:=.map #[] 0) (l:=⟨w.heap.size,0,0,0⟩) rfl ⟨#[],0,rfl,rfl,by simp,rfl,by simp⟩ rfl rfl ⟨rfl,Nat.le_refl _⟩ rfl c3
 exact⟨.map (some w.heap.size),_,_,by simp[Instr.makeMap],VR.dJ (l:=⟨w.heap.size,0,0,0⟩) (Gh.add_same _ _ _),e,f⟩
def uP (P:Program)(S:af)(t:TypeId)(x:AV):Option (AV×af):=
 match P.underlying t,x with
 | some .string,.sc (.string s)=>match Nat.ble (S.nx+1) 8192&&Nat.ble S.lim S.nx with
   | true=>some (.ptr S.nx 0 0,S.add (.si s 0))
   | false=>none
 | some (.map _ _),.sc (.map none)=>match Nat.ble (S.nx+1) 8192&&Nat.ble S.lim S.nx with
   | true=>some (.ptr S.nx 0 0,S.add .mz)
   | false=>none
 | some (.map _ _),.dJ id=>match S.get id,Nat.ble (S.nx+1) 8192&&Nat.ble S.lim S.nx with
   | some (.mp c),true=>some (.ptr S.nx 0 0,S.add (.mi id c.length []))
   | _,_=>none
 | _,_=>none
theorem B1 (hi:Inv S g w){x:AV}(h:uP P S t x=some (r,S'))(q:VR g x y) :
   ∃ z w' g', (Instr.range t y).run P w=.ok z w' ∧ VR g' r z∧Inv S' g' w' ∧ Ext S g w S' g' w' := by
 unfold uP at h
 split at h<;>try (simp at h;done)
 · rename_i s e
   split at h<;>simp only[ar,iy,reduceCtorEq] at h
   rename_i c
   obtain⟨rfl,rfl⟩:=h
   simp only[Bool.and_eq_true] at c
   have c2:=eL c.1
   have c3:=eL c.2
   cases q with | sc _=>?_
   obtain⟨f,p⟩:=hi.alloc (w' := w.alloc (.stringIter s 0)) (by omega) (o:=.si s 0) (ob:=.stringIter s 0) (l:=⟨w.heap.size,0,0,0⟩) rfl ⟨rfl,rfl⟩ rfl rfl ⟨rfl,Nat.le_refl _⟩ rfl c3
   exact⟨.pointer (some ⟨w.heap.size,0,none⟩),_,_,by simp[Instr.range,ag e],by simpa using VR.ptr (i:=0) (j:=0) (l:=⟨w.heap.size,0,0,0⟩) (Gh.add_same g S.nx _),f,p⟩
 · rename_i e
   split at h<;>simp only[ar,iy,reduceCtorEq] at h
   rename_i c
   obtain⟨rfl,rfl⟩:=h
   simp only[Bool.and_eq_true] at c
   have c2:=eL c.1
   have c3:=eL c.2
   cases q with | sc _=>?_
   obtain⟨f,p⟩:=hi.alloc (w' := w.alloc (.mapIter none 0 #[] 0)) (by omega) (o:=.mz) (ob:=.mapIter none 0 #[] 0) (l:=⟨w.heap.size,0,0,0⟩) rfl ⟨0,#[],0,rfl,rfl⟩ rfl rfl ⟨rfl,Nat.le_refl _⟩ rfl c3
   exact⟨.pointer (some ⟨w.heap.size,0,none⟩),_,_,by simp[Instr.range,ag e],by simpa using VR.ptr (i:=0) (j:=0) (l:=⟨w.heap.size,0,0,0⟩) (Gh.add_same g S.nx _),f,p⟩
 · rename_i id e
   split at h<;>simp only[ar,iy,reduceCtorEq] at h
   rename_i v B c
   obtain⟨rfl,rfl⟩:=h
   simp only[Bool.and_eq_true] at c
   have c2:=eL c.1
   have c3:=eL c.2
   cases q with | dJ A=>?_
   rename_i lm
   obtain⟨l', u,a2,a3⟩:=hi.ob _ _ B
   rw[A] at u;simp only[ar] at u;subst u
   obtain⟨es,ck,C,D,F,E,G⟩:=a3
   obtain⟨f,p⟩:=hi.alloc (w' := w.alloc (.mapIter (some lm.cd) ck #[] ck)) (by omega) (o:=.mi id v.length []) (ob:=.mapIter (some lm.cd) ck #[] ck) (l:=⟨w.heap.size,0,0,0⟩) rfl ⟨lm,A,by rw[E,D],rfl⟩ rfl rfl ⟨rfl,Nat.le_refl _⟩ rfl c3
   exact⟨.pointer (some ⟨w.heap.size,0,none⟩),_,_,by simp[Instr.range,ag e,getObj,Sem.run,C],by simpa using VR.ptr (i:=0) (j:=0) (l:=⟨w.heap.size,0,0,0⟩) (Gh.add_same g S.nx _),f,p⟩
def vL (S:af)(it:AV)(isString:Bool):Option (AV×af):=
 match it,isString with
 | .ptr id 0 0,true=>match S.get id with
   | some (.si s p)=>match Nat.ble (p+1) s.size,Nat.ble S.lim id with
     | true,true=>some (.bm [.sc (.bool true),.sc (.int .i64 p),.sc (.int .i32 (Utf8.decode s p).1)],S.set id (.si s (p+(Utf8.decode s p).2)))
     | false,_=>some (.bm [.sc (.bool false)],S)
     | _,_=>none
   | _=>none
 | _,_=>none
theorem fG.three {c:AV}(h:VR g a x)(f:VR g b y)(e:VR g c z):fG g [a,b,c] #[x,y,z]:=fG.cons (xs:=[y,z]) h (fG.two f e)
variable {it : AV}
theorem Ej (hi:Inv S g w){b:Bool}(h:vL S it b=some (r,S'))(q:VR g it x) :
   ∃ z w', (Instr.next x b t).run P w=.ok z w' ∧ VR g r z∧Inv S' g w' ∧ Ext S g w S' g w' := by
 unfold vL at h
 split at h<;>try (simp at h;done)
 rename_i id
 split at h<;>try (simp at h;done)
 rename_i s p j
 cases q with
 | ptr o=>
   rename_i l
   obtain⟨l', f,B,c⟩:=hi.ob _ _ j
   rw[o] at f;simp only[ar] at f;subst f
   obtain⟨c,e⟩:w.heap[l.cd]? = some (.stringIter s p)∧l.base=0:=c
   have i:=(Array.getElem?_eq_some_iff.1 c).1
   have u:l.base+0*l.sz+0=0:=by rw[e];simp
   rw[u]
   split at h<;>simp only[ar,iy,reduceCtorEq] at h
   · rename_i h1 h2
     have h1:=eL h1
     have h2:=eL h2
     obtain⟨rfl,rfl⟩:=h
     have h3:fG g [.sc (.bool true),.sc (.int .i64 p),.sc (.int .i32 (Utf8.decode s p).1)] #[.bool true,.int .i64 p,.int .i32 (Utf8.decode s p).1]:=fG.three (.sc rfl) (.sc rfl) (.sc rfl)
     refine⟨_,{ w with heap:=w.heap.setIfInBounds l.cd (.stringIter s (p+(Utf8.decode s p).2)) },?_,.bm h3.1 h3.2,?_⟩
     · simp only[Instr.next,Sem.run_bind,Result.andThen_ok,getObj,Sem.run,c]
       rw[if_pos (by omega)]
       simp[setObj,Sem.run,c,goInt]
     · refine hi.j2 j h2 o (by simp) ?_ ?_ rfl ⟨rfl,Nat.le_refl _⟩ rfl ⟨rfl,e⟩
       · show(w.heap.setIfInBounds l.cd _)[l.cd]? = _
         rw[Array.getElem?_setIfInBounds,if_pos rfl,if_pos i]
       · intro k v
         show(w.heap.setIfInBounds l.cd _)[k]? = _
         rw[Array.getElem?_setIfInBounds,if_neg (Ne.symm v)]
   · rename_i h1
     have h1:¬ p<s.size:=by intro A;rw[tn A] at h1;simp at h1
     obtain⟨rfl,rfl⟩:=h
     refine⟨.tuple #[.bool false],w,?_,.bm (fG.cons (xs:=[]) (g:=g) (a:=.sc (.bool false)) (.sc rfl) (fG.nil g)).1 (fG.cons (xs:=[]) (g:=g) (a:=.sc (.bool false)) (.sc rfl) (fG.nil g)).2,hi,Ext.refl _ _ _⟩
     simp only[Instr.next,Sem.run_bind,Result.andThen_ok,getObj,Sem.run,c]
     rw[if_neg h1]
     simp
def Yf (i:Nat):List Nat→Bool
 | []=>false
 | j::r=>match Nat.beq i j with
   | true=>true
   | false=>Yf i r
def ri (seen:List Nat):List (AV×AV)→Nat→List (Nat×AV×AV)
 | [],_=>[]
 | (k,v)::r,i=>match Yf i seen with
   | true=>ri seen r (i+1)
   | false=>(i,k,v)::ri seen r (i+1)
def Ix (S:af)(id m since:Nat)(seen:List Nat):List (Nat×AV×AV)→List (AV×af)
 | []=>[]
 | (i,k,v)::r=>(.bm [.sc (.bool true),k,v],S.set id (.mi m since (seen++[i])))::Ix S id m since seen r
def Qa (S:af)(id m since:Nat)(seen:List Nat):List (Nat×AV×AV)→List (AV×af)
 | []=>[(.bm [.sc (.bool false)],S)]
 | l=>Ix S id m since seen l
def LJ (S:af)(it:AV):Option (List (AV×af)):=
 match it with
 | .ptr id 0 0=>match S.get id with
   | some .mz=>some [(.bm [.sc (.bool false)],S)]
   | some (.mi m since seen)=>match S.get m with
     | some (.mp c)=>match Nat.beq since c.length,Nat.ble S.lim id with
       | true,true=>some (Qa S id m since seen (ri seen c 0))
       | _,_=>none
     | _=>none
   | _=>none
 | _=>none
theorem IN {i:Nat}:∀ {l:List Nat},Yf i l=true↔i∈l:=by
 intro l
 induction l with
 | nil=>simp[Yf]
 | cons j r e=>
   simp only[Yf,List.mem_cons]
   cases c:Nat.beq i j with
   | true=>simp[jK c]
   | false=>
     have:i≠j:=by rintro rfl;rw[Nat.beq_refl] at c;simp at c
     simp[this,e]
variable {seen : List Nat}
theorem AO : ∀ {c:List (AV×AV)} {n i:Nat} {k v:AV},(i,k,v)∈ri seen c n↔n≤i∧c[i-n]? = some (k,v)∧i∉seen:=by
 intro c
 induction c with
 | nil=>intro n i k v;simp[ri]
 | cons u r o=>
   obtain⟨a,b⟩:=u
   intro n i k v
   have f:((n+1≤i∧r[i-(n+1)]? = some (k,v)∧i∉seen)∨(i=n∧a=k∧b=v∧n∉seen))↔(n≤i∧((a,b)::r)[i-n]? = some (k,v)∧i∉seen):=by
     constructor
     · rintro(⟨p,q,s⟩ | ⟨rfl,rfl,rfl,s⟩)
       · refine⟨by omega,?_,s⟩
         rw[show i-n=(i-(n+1))+1 from by omega,List.getElem?_cons_succ];exact q
       · exact⟨Nat.le_refl _,by simp,s⟩
     · rintro⟨p,q,s⟩
       by_cases e:i=n
       · subst e;simp at q;exact .inr ⟨rfl,q.1,q.2,s⟩
       · rw[show i-n=(i-(n+1))+1 from by omega,List.getElem?_cons_succ] at q
         exact .inl ⟨by omega,q,s⟩
   rw[←f]
   simp only[ri]
   cases h:Yf n seen with
   | true=>
     have j:=IN.1 h
     simp only[o]
     constructor
     · exact .inl
     · rintro(q | ⟨_,_,_,s⟩)
       · exact q
       · exact absurd j s
   | false=>
     have j:n∉seen:=fun e=>by rw[IN.2 e] at h;simp at h
     simp only[List.mem_cons,iy,o]
     constructor
     · rintro(⟨rfl,rfl,rfl⟩ | q)
       · exact .inr ⟨rfl,rfl,rfl,j⟩
       · exact .inl q
     · rintro(q | ⟨rfl,rfl,rfl,_⟩)
       · exact .inr q
       · exact .inl ⟨rfl,rfl,rfl⟩
theorem Mx {id m since:Nat}:∀ {l:List (Nat×AV×AV)} {i:Nat} {k v:AV},(i,k,v)∈l→(AV.bm [.sc (.bool true),k,v],S.set id (.mi m since (seen++[i])))∈Ix S id m since seen l:=by
 intro l
 induction l with
 | nil=>intro i k v h;simp at h
 | cons p r c=>
   obtain⟨j,a,b⟩:=p
   intro i k v h
   rcases List.mem_cons.1 h with e | h
   · simp only[iy] at e
     obtain⟨rfl,rfl,rfl⟩:=e
     exact List.mem_cons_self ..
   · exact ug _ (c h)
theorem Bd (w:World)(e:0<n):∃ c w', (choose (.mapNext n)).run P w=.ok c w' ∧ c<n∧w'.heap=w.heap∧w'.os=w.os∧ET w' w∧w'.output=w.output:=by
 by_cases h:n≤1
 · exact⟨0,w,by simp[choose,Sem.run,Question.forced,h],e,rfl,rfl,⟨rfl,Nat.le_refl _⟩,rfl⟩
 · exact⟨w.tape w.drawn (.mapNext n)%n,{ w with drawn:=w.drawn+1 },by simp[choose,Sem.run,Question.forced,h,Question.cut],Nat.mod_lt _ e,rfl,rfl,⟨rfl,Nat.le_succ _⟩,rfl⟩
theorem Gc (hi : Inv S g w) {l : List (AV × af)} (h : LJ S it = some l) (hv : VR g it x) :
   ∃ r S' z w', (r, S') ∈ l ∧ (Instr.next x false t).run P w = .ok z w' ∧ VR g r z ∧ Inv S' g w' ∧ Ext S g w S' g w' := by
 have D : fG g [.sc (.bool false)] #[.bool false] := fG.cons (xs := []) (.sc rfl) (fG.nil g)
 unfold LJ at h
 split at h <;> try (simp at h; done)
 rename_i id
 cases hv with | ptr hl => ?_
 rename_i lo
 split at h <;> try (simp at h; done)
 · rename_i hg
   simp only [ar] at h; subst h
   obtain ⟨l', H, q2, M⟩ := hi.ob _ _ hg
   rw [hl] at H; simp only [ar] at H; subst H
   obtain ⟨a, b, c, M, E⟩ := M
   refine ⟨_, _, .tuple #[.bool false], w, List.mem_cons_self .., ?_, .bm D.1 D.2, hi, Ext.refl _ _ _⟩
   rw [show lo.base + 0 * lo.sz + 0 = 0 from by rw [E]; simp]
   simp [Instr.next, getObj, Sem.run, M]
 · rename_i m since seen hg
   split at h <;> try (simp at h; done)
   rename_i f hgm
   split at h <;> simp only [ar, reduceCtorEq] at h
   rename_i hs u
   have hs := jK hs
   have u := eL u
   subst h
   obtain ⟨l', H, q2, M⟩ := hi.ob _ _ hg
   rw [hl] at H; simp only [ar] at H; subst H
   obtain ⟨lm, m1, m2, E⟩ := M
   obtain ⟨l', n1, n2, n3⟩ := hi.ob _ _ hgm
   rw [m1] at n1; simp only [ar] at n1; subst n1
   obtain ⟨es, ck, p1, p2, p3, p4, L⟩ := n3
   have hlt := (Array.getElem?_eq_some_iff.1 m2).1
   rw [show lo.base + 0 * lo.sz + 0 = 0 from by rw [E]; simp]
   have K : (!seen.toArray.isEmpty && !es.isEmpty && es.all fun e => decide (e.born ≥ since)) = false := by
     rw [Bool.eq_false_iff]
     intro C
     simp only [Bool.and_eq_true, Bool.not_eq_true'] at C
     obtain ⟨⟨_, c2⟩, c3⟩ := C
     have F : 0 < es.size := by
       rcases Nat.eq_zero_or_pos es.size with e | e
       · simp [Array.isEmpty, e] at c2
       · exact e
     have := (Array.all_eq_true.1 c3) 0 F
     simp only [ge_iff_le, decide_eq_true_eq] at this
     have hb := L 0 es[0] (Bx F)
     omega
   obtain ⟨left, q⟩ : ∃ x, x = es.filter fun e => !seen.toArray.contains e.born := ⟨_, rfl⟩
   have I : ∀ e, e ∈ left → ∃ i, es[i]? = some e ∧ i ∉ seen := by
     intro e p
     rw [q, Array.mem_filter] at p
     obtain ⟨i, hi', he'⟩ := Array.mem_iff_getElem.1 p.1
     have B : es[i]? = some e := by rw [Bx hi', he']
     refine ⟨i, B, fun C => ?_⟩
     have := p.2
     rw [L i e B] at this
     simp [C] at this
   have R : ∀ i e, es[i]? = some e → i ∉ seen → e ∈ left := by
     intro i e p hn
     rw [q, Array.mem_filter]
     refine ⟨Array.mem_of_getElem? p, ?_⟩
     rw [L i e p]
     simp [hn]
   have T : left.filter (fun e => decide (e.born < since)) = left := by
     rw [Array.filter_eq_self]
     intro e p
     obtain ⟨i, h1, _⟩ := I e p
     have := (Array.getElem?_eq_some_iff.1 h1).1
     rw [L i e h1]
     simp only [decide_eq_true_eq]; omega
   have U : left.filter (fun e => decide (e.born ≥ since)) = #[] := by
     rw [Array.filter_eq_empty_iff]
     intro e p
     obtain ⟨i, h1, _⟩ := I e p
     have := (Array.getElem?_eq_some_iff.1 h1).1
     rw [L i e h1]
     simp only [decide_eq_true_eq]; omega
   obtain ⟨j, o⟩ : ∃ x, x = (if left.isEmpty then #[none] else #[]) ++ (left ++ #[]).map some := ⟨_, rfl⟩
   have hsz : 0 < j.size := by
     rw [o]
     cases p : left.isEmpty with
     | true => simp; omega
     | false =>
       have : left.size ≠ 0 := by intro e; simp [Array.isEmpty, e] at p
       simp; omega
   obtain ⟨c, w1, r1, r2, r3, r4, r5, r6⟩ := Bd (P := P) w hsz
   have V : (Instr.next (.pointer (some ⟨lo.cd, 0, none⟩)) false t).run P w = (match j[c]? with
       | some (some e) => (do setObj lo.cd (.mapIter (some lm.cd) since (seen.toArray.push e.born) ck); pure (.tuple #[.bool true, e.key, e.val]) : Sem Value)
       | some none => pure (.tuple #[.bool false])
       | none => stuck "Next: no such candidate").run P w1 := by
     simp only [Instr.next, Sem.run_bind, getObj, Sem.run, m2, Result.andThen_ok, p1, K, Bool.false_eq_true, if_false, ← q, T, U, ← o, r1]
     rfl
   rw [V]
   have N : Inv S g w1 := hi.world r3
   have O : Ext S g w S g w1 := Ext.world r3 r4 r5 r6
   have G : j[c]? = some j[c] := Bx r2
   cases C : j[c] with
   | none =>
     rw [G, C]
     have W : left.isEmpty = true := by
       cases p : left.isEmpty with
       | true => rfl
       | false =>
         exfalso
         rw [p] at o
         have s : (none : Option MapEntry) ∈ j := by rw [← C]; exact Array.getElem_mem _
         rw [o] at s
         simp at s
     have hlk : ri seen f 0 = [] := by
       rw [List.eq_nil_iff_forall_not_mem]
       rintro ⟨i, k, v⟩ s
       obtain ⟨_, a, b⟩ := AO.1 s
       simp only [Nat.sub_zero] at a
       have X : i < es.size := by rw [p2]; exact (List.getElem?_eq_some_iff.1 a).1
       have := R i es[i] (Bx X) b
       have J : left = #[] := by simpa using W
       rw [J] at this
       simp at this
     refine ⟨.bm [.sc (.bool false)], S, .tuple #[.bool false], w1, ?_, by simp, .bm D.1 D.2, N, O⟩
     rw [hlk]; exact List.mem_cons_self ..
   | some e =>
     rw [G, C]
     have s : e ∈ left := by
       have s : some e ∈ j := by rw [← C]; exact Array.getElem_mem _
       rw [o] at s
       cases p : left.isEmpty with
       | true =>
         rw [p] at s
         have J : left = #[] := by simpa using p
         rw [J] at s
         simp at s
       | false => rw [p] at s; simpa using s
     obtain ⟨i, h1, h2⟩ := I e s
     have Y : i < f.length := by rw [← p2]; exact (Array.getElem?_eq_some_iff.1 h1).1
     have Q : f[i]? = some f[i] := oe Y
     obtain ⟨v1, v2⟩ := p3 i _ e Q h1
     have A : (i, f[i].1, f[i].2) ∈ ri seen f 0 := AO.2 ⟨Nat.zero_le _, by rw [Nat.sub_zero]; exact Q, h2⟩
     have Z : lo.cd < w1.heap.size := by rw [r3]; exact hlt
     have h3 : fG g [.sc (.bool true), f[i].1, f[i].2] #[.bool true, e.key, e.val] := fG.three (.sc rfl) v1 v2
     have hb := L i e h1
     obtain ⟨u1, u2⟩ := N.j2 (w' := { w1 with heap := w1.heap.setIfInBounds lo.cd (.mapIter (some lm.cd) since (seen.toArray.push e.born) ck) }) (ob' := .mapIter (some lm.cd) since (seen.toArray.push e.born) ck) (o' := .mi m since (seen ++ [i])) hg u hl (by simp)
       (by show (w1.heap.setIfInBounds lo.cd _)[lo.cd]? = _; rw [Array.getElem?_setIfInBounds, if_pos rfl, if_pos Z])
       (by intro k hk; show (w1.heap.setIfInBounds lo.cd _)[k]? = _; rw [Array.getElem?_setIfInBounds, if_neg (Ne.symm hk)]) rfl ⟨rfl, Nat.le_refl _⟩ rfl
       ⟨lm, m1, by rw [hb, p4, p2, ← hs]; simp, E⟩
     refine ⟨_, _, .tuple #[.bool true, e.key, e.val], _, ?_, ?_, .bm h3.1 h3.2, u1, O.trans u2⟩
     · have : Qa S id m since seen (ri seen f 0) = Ix S id m since seen (ri seen f 0) := by
         cases hq : ri seen f 0 with
         | nil => rw [hq] at A; simp at A
         | cons a b => rfl
       rw [this]
       exact Mx A
     · simp [setObj, Sem.run, show w1.heap[lo.cd]? = some (Obj.mapIter (some lm.cd) since seen.toArray since) from by rw [r3]; exact m2]
def Fj : List Nat→Option Nat
 | []=>none
 | [i]=>some i
 | _::r=>Fj r
def zR (S:af)(it:AV):Option AV:=
 match it with
 | .ptr id 0 0=>match S.get id with
   | some (.mi m since seen)=>match S.get m,Fj seen with
     | some (.mp c),some i=>match Nat.beq since c.length,nth c i with
       | true,some (k,v)=>some (.bm [k,v])
       | _,_=>none
     | _,_=>none
   | _=>none
 | _=>none
theorem Hz : ∀ {l:List Nat} {i:Nat},Fj l=some i→l.toArray.back? = some i:=by
 intro l
 induction l with
 | nil=>intro i h;simp[Fj] at h
 | cons a r c=>
   intro i h
   cases r with
   | nil=>simp only[Fj,ar] at h;subst h;rfl
   | cons b r=>
     have:=c (i:=i) h
     simp only[List.back?_toArray] at this ⊢
     rw[List.getLast?_cons_cons];exact this
theorem B2 (hi:Inv S g w)(h:zR S it=some r)(H:VR g it x):∃ z,(Instr.entry x).run P w=.ok z w∧VR g r z:=by
 unfold zR at h
 split at h<;>try (simp at h;done)
 rename_i id
 cases H with | ptr I=>?_
 rename_i lo
 split at h<;>try (simp at h;done)
 rename_i m since seen J
 split at h<;>try (simp at h;done)
 rename_i V i D c
 split at h<;>simp only[ar,reduceCtorEq] at h
 rename_i k v s u
 have s:=jK s
 rw[iB] at u
 subst h
 obtain⟨l', A,X,K⟩:=hi.ob _ _ J
 rw[I] at A;simp only[ar] at A;subst A
 obtain⟨lm,L,M,E⟩:=K
 obtain⟨l', B,Y,N⟩:=hi.ob _ _ D
 rw[L] at B;simp only[ar] at B;subst B
 obtain⟨es,ck,O,F,Q,R,G⟩:=N
 have q:i<es.size:=by rw[F];exact(List.getElem?_eq_some_iff.1 u).1
 have o:=Bx q
 obtain⟨v1,T⟩:=Q i _ _ u o
 have f:es.find? (fun e=>e.born==i)=some es[i]:=by
  cases C:es.find? (fun e=>e.born==i) with
  | none=>
    have:=Array.find?_eq_none.1 C es[i] (Array.getElem_mem _)
    rw[G i _ o] at this;simp at this
  | some e=>
    have h1:=Array.find?_some C
    have h2:=Array.mem_of_find?_eq_some C
    obtain⟨j,U,p⟩:=Array.mem_iff_getElem.1 h2
    have:=G j e (by rw[Bx U,p])
    have W:e.born=i:=by simpa using h1
    have:j=i:=by omega
    subst this
    rw[p]
 have h2:=fG.two v1 T
 refine⟨.tuple #[es[i].key,es[i].val],?_,.bm h2.1 h2.2⟩
 rw[show lo.base+0*lo.sz+0=0 from by rw[E];simp]
 simp only[Instr.entry,Sem.run_bind,getObj,Sem.run,M,Result.andThen_ok,Hz c,O,f]
 rw[if_neg (by rw[R,F,s];simp)]
 simp
def wZ (P:Program)(t:TypeId)(x:AV)(ok:Bool):Option AV:=
 match P.underlying t with
 | some (.interface _)=>none
 | some _=>match x,ok with
   | .fq u v,true=>if u=t then some (.bm [v,.sc (.bool true)]) else
     match iC P t with
     | some z=>some (.bm [z,.sc (.bool false)])
     | none=>none
   | .fq u v,false=>if u=t then some v else none
   | .sc .nilIface,true=>match iC P t with
     | some z=>some (.bm [z,.sc (.bool false)])
     | none=>none
   | _,_=>none
 | none=>none
theorem Be {xt : TypeId} {x : AV} (h : wZ P t x ok = some r) (c : VR g x y) : ∃ z, (Instr.typeAssert y xt t ok).run P w = .ok z w ∧ VR g r z := by
 unfold wZ at h
 split at h <;> try (simp at h; done)
 rename_i d q s
 have key : ∀ u v, (Instr.typeAssert (.iface u v) xt t ok).run P w = (if u = t then (pure (if ok then .tuple #[v, .bool true] else v) : Sem Value) else
     (if ok then do pure (.tuple #[← zeroValue t, .bool false]) else runtimePanic (.typeAssertion (some xt) (some u) t ""))).run P w := by
   intro u v
   cases d <;> first | exact (q _ rfl).elim | simp [Instr.typeAssert, ag s]
 have j : ok = true → (Instr.typeAssert .nilIface xt t ok).run P w = (do pure (.tuple #[← zeroValue t, .bool false]) : Sem Value).run P w := by
   intro p; subst p
   cases d <;> first | exact (q _ rfl).elim | simp [Instr.typeAssert, ag s]
 split at h <;> try (simp at h; done)
 · rename_i u v
   cases c with
   | fq c =>
     split at h
     · rename_i i
       simp only [ar] at h; subst h; subst i
       exact ⟨_, by rw [key]; simp, VR.two c (.sc rfl)⟩
     · rename_i i
       split at h <;> simp only [ar, reduceCtorEq] at h
       rename_i z o
       subst h
       obtain ⟨A, e, f⟩ := jk (P := P) (w := w) (g := g) o
       exact ⟨_, by rw [key]; simp [i, e], VR.two f (.sc rfl)⟩
 · rename_i u v
   cases c with
   | fq c =>
     split at h <;> simp only [ar, reduceCtorEq] at h
     rename_i i
     subst h; subst i
     exact ⟨_, by rw [key]; simp, c⟩
 · split at h <;> simp only [ar, reduceCtorEq] at h
   rename_i z o
   subst h
   obtain ⟨A, e, f⟩ := jk (P := P) (w := w) (g := g) o
   cases c with | sc _ => exact ⟨_, by rw [j rfl]; simp [e], VR.two f (.sc rfl)⟩
end
end Go.Eng

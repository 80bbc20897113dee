/- Abstract values and stores, their meaning, and the operations on them; no conditions. -/
import Derived.Recover
import Derived.Laws.Sem
import Derived.Laws.World
import Derived.Laws.StructEq
import Derived.Laws.BitsLemmas
set_option linter.all false
namespace Go.Eng
noncomputable section
abbrev Jn := @List.mem_of_mem_drop
abbrev xd := @Nat.le_succ
abbrev Fl := @Array.getElem?_modify
abbrev tZ := @Nat.add_zero
abbrev Oc := @Array.getElem?_append_left
abbrev Fk := @Array.getElem?_extract
abbrev BY := @Array.toList_append
abbrev xe := @Bool.or_eq_true
abbrev zm := @List.ext_getElem?
abbrev Ju := @List.getElem?_inj
abbrev Jr := @List.take_of_length_le
abbrev Uq := @List.length_nil
abbrev xg := @Bool.not_eq_true'
abbrev OP := @List.count_eq_zero
abbrev ud := @List.map_nil
abbrev nY := @Nat.succ_mul
abbrev xf := @Nat.zero_add
abbrev so := @List.nodup_cons
abbrev B7 := @List.length_eq_zero_iff
abbrev Fm := @Array.length_toList
abbrev vu := @List.mem_of_mem_take
abbrev Cc := @List.take_succ_eq_append_getElem
abbrev zn := @Array.getElem?_toList
abbrev tW := @List.getElem?_take
abbrev mI := @List.all_cons
abbrev pg := @Bool.eq_false_iff
abbrev vv := @Option.getD_some
abbrev aL50z_ := @List.map_set
abbrev n5 := @List.append_nil
abbrev sq := @List.length_map
abbrev B4 := @List.cons_append
abbrev Fs := @List.singleton_append
abbrev mF := @Nat.le_trans
abbrev uh := @Bool.and_true
abbrev ub := @Int.toNat_natCast
abbrev zo := @List.getElem?_eq_none
abbrev sd := @List.getElem?_toArray
abbrev BX := @List.getElem?_append_left
abbrev sg := @List.length_append
abbrev ug := @List.mem_singleton
abbrev jO := @Nat.lt_or_ge
abbrev aem := @List.map_drop
abbrev qW := @List.getElem?_drop
abbrev mG := @Nat.lt_of_lt_of_le
abbrev gD := @Nat.add_mul
abbrev kJ := @List.mem_map
abbrev pj := @List.append_assoc
abbrev vy := @Nat.beq_refl
abbrev zl := @List.getElem?_cons_succ
abbrev asI := @List.map_take
abbrev lP := @Option.map_some
abbrev sl := @List.getElem?_map
abbrev j6 := @Bool.true_and
abbrev vw := @List.getElem?_cons_zero
abbrev tY := @List.eq_nil_of_length_eq_zero
abbrev asJ := @List.map_replicate
abbrev zj := @List.getElem?_append_right
abbrev Oy := @List.map_append
abbrev pk := @List.length_cons
abbrev sj := @Array.getElem?_setIfInBounds
abbrev jj := @List.drop_zero
abbrev lE := @List.nil_append
abbrev po := @Array.getD_eq_getD_getElem?
abbrev hU := @List.getElem?_of_mem
abbrev fu := @List.drop_length
abbrev fc := @List.mem_append
abbrev dF := @List.map_cons
abbrev bW := @Nat.zero_le
abbrev jU := @List.mem_cons_self
abbrev dE := @List.mem_cons
abbrev dg := @List.all_eq_true
abbrev dK := @Bool.false_eq_true
abbrev cM := @List.getElem_mem
abbrev bG := @Nat.le_refl
abbrev db := @List.drop_eq_getElem_cons
abbrev aS := @Bool.and_eq_true
abbrev aW := @Option.bind_eq_bind
abbrev aD := @Option.bind_some
abbrev Ab := @Array.getElem?_eq_getElem
abbrev qB := @List.getElem?_eq_getElem
abbrev yp := @Nat.mul_le_mul_right
abbrev vj := @List.mem_of_getElem?
abbrev vi := @Nat.lt_succ_self
abbrev K5 := @List.mem_cons_of_mem
abbrev BG := @Array.getElem?_eq_some_iff
abbrev mC := @List.getElem?_eq_some_iff
abbrev GY := @Nat.ble_eq_true_of_le
abbrev nj := @Prod.mk.injEq
abbrev oR := @Nat.eq_of_beq_eq_true
abbrev gw := @Nat.le_of_ble_eq_true
abbrev bj := @Option.some.injEq
def Ld : Value→Bool
 | .bool _ | .int _ _ | .string _ | .pointer none | .map none | .nilFunc | .nilIface=>true
 | _=>false
inductive AV where
 | sc (v : Value)
 | agg (cs : List AV)
 | ft
 | an
 | lit (es : List AV)
 | dN (cs : List AV)
 | ptr (id i j : Nat)
 | ai (id off len : Nat)
 | cQ (id : Nat)
 | fn (f : Fn) (first cap : List AV)
 | eu (t : TypeId) (v : AV)
 | bO (vs : List AV)
 | rV (id : Nat)
 | clip (v : AV)
 | top
 deriving Inhabited
def AV.cells : AV→List AV
 | .agg cs=>cs
 | v=>[v]
structure Loc where
 cZ : Nat
 base : Nat
 sz : Nat
 bz : Nat
structure Gh where
 ro : Nat → Option (Array Value)
 ph : Nat → Option Loc
structure Gh.le (a b : Gh) : Prop where
 ro : ∀ k c, a.ro k = some c → b.ro k = some c
 ph : ∀ k l, a.ph k = some l → b.ph k = some l
theorem Gh.le_refl (a:Gh):Gh.le a a:=⟨fun _ _ h=>h,fun _ _ h=>h⟩
theorem Gh.le_trans {a b c:Gh}(h:Gh.le a b)(k:Gh.le b c):Gh.le a c:=⟨fun i x e=>k.ro i x (h.ro i x e),fun i x e=>k.ph i x (h.ph i x e)⟩
inductive VR (g : Gh) : AV → Value → Prop
 | sc {v : Value} (h : Ld v = true) : VR g (.sc v) v
 | agg {cs : List AV} {xs : Array Value} (hl : cs.length = xs.size) (h : ∀ (k : Nat) (a : AV) (x : Value), cs[k]? = some a → xs[k]? = some x → VR g a x) : VR g (.agg cs) (.agg xs)
 | ft {a : Option Addr} : VR g .ft (.slice a 0 0)
 | an : VR g .an (.slice none 0 0)
 | lit {es : List AV} {b o sz cap : Nat} {c : Array Value} (hr : g.ro b = some c) (hs : ∀ e, e ∈ es → e.cells.length = sz) (hb : o + es.length * sz ≤ c.size) (hcap : es.length ≤ cap)
  (h : ∀ (i j : Nat) (e a : AV) (x : Value), es[i]? = some e → e.cells[j]? = some a → c[o + i * sz + j]? = some x → VR g a x) :
  VR g (.lit es) (.slice (some ⟨b, o, none⟩) es.length cap)
 | jV {a : Option Addr} {cap : Nat} : VR g (.lit []) (.slice a 0 cap)
 | dN {cs : List AV} {b o : Nat} {c : Array Value} (hr : g.ro b = some c) (hb : o + cs.length ≤ c.size)
  (h : ∀ (j : Nat) (a : AV) (x : Value), cs[j]? = some a → c[o + j]? = some x → VR g a x) : VR g (.dN cs) (.pointer (some ⟨b, o, none⟩))
 | ptr {id i j : Nat} {l : Loc} (hl : g.ph id = some l) : VR g (.ptr id i j) (.pointer (some ⟨l.cZ, l.base + i * l.sz + j, none⟩))
 | ai {id off len cap : Nat} {l : Loc} (hl : g.ph id = some l) (hc : len ≤ cap) (hb : l.base + (off + cap) * l.sz = l.bz) :
  VR g (.ai id off len) (.slice (some ⟨l.cZ, l.base + off * l.sz, none⟩) len cap)
 | hM {id off : Nat} {a : Addr} {l : Loc} (hl : g.ph id = some l) (hb : l.base + off * l.sz = l.bz) : VR g (.ai id off 0) (.slice (some a) 0 0)
 | cQ {id : Nat} {l : Loc} (hl : g.ph id = some l) : VR g (.cQ id) (.map (some l.cZ))
 | fn {f : Fn} {first cap : List AV} {xs ys : Array Value} (hx : first.length = xs.size) (hy : cap.length = ys.size)
  (h : ∀ (k : Nat) (a : AV) (x : Value), first[k]? = some a → xs[k]? = some x → VR g a x)
  (h' : ∀ (k : Nat) (a : AV) (x : Value), cap[k]? = some a → ys[k]? = some x → VR g a x) : VR g (.fn f first cap) (.func f xs ys)
 | eu {t : TypeId} {v : AV} {x : Value} (h : VR g v x) : VR g (.eu t v) (.iface t x)
 | bO {vs : List AV} {xs : Array Value} (hl : vs.length = xs.size) (h : ∀ (k : Nat) (a : AV) (x : Value), vs[k]? = some a → xs[k]? = some x → VR g a x) : VR g (.bO vs) (.tuple xs)
 | rV {id : Nat} {l : Loc} (hl : g.ph id = some l) : VR g (.rV id) (.func (.yield l.cZ) #[] #[])
 | clip {v : AV} {a : Option Addr} {n c : Nat} (h : VR g v (.slice a n c)) : VR g (.clip v) (.slice a n n)
 | top {x : Value} : VR g .top x
variable {g : Gh} {x : Value}
theorem VR.mono {g' : Gh}(e:Gh.le g g'){v:AV}(h:VR g v x):VR g' v x:=by
 induction h with
 | sc h=>exact .sc h
 | agg c _ d=>exact .agg c d
 | ft=>exact .ft
 | an=>exact .an
 | lit m hs hb f _ d=>exact .lit (e.ro _ _ m) hs hb f d
 | jV=>exact .jV
 | dN m hb _ d=>exact .dN (e.ro _ _ m) hb d
 | ptr c=>exact .ptr (e.ph _ _ c)
 | ai c p hb=>exact .ai (e.ph _ _ c) p hb
 | hM c hb=>exact .hM (e.ph _ _ c) hb
 | cQ c=>exact .cQ (e.ph _ _ c)
 | fn hx hy _ _ d n=>exact .fn hx hy d n
 | eu _ d=>exact .eu d
 | bO c _ d=>exact .bO c d
 | rV c=>exact .rV (e.ph _ _ c)
 | clip _ d=>exact .clip d
 | top=>exact .top
def AV.qV : AV→AV
 | .clip v=>v
 | v=>v
theorem VR.qV {g:Gh}{v:AV}{x:Value}(h:VR g v x):VR g v.qV x∨∃ a n c,x=.slice a n n∧VR g v.qV (.slice a n c):=by
 cases h with
 | clip h=>exact .inr ⟨_,_,_,rfl,h⟩
 | _=>left;first | (constructor<;>assumption) | grind
def hJ (g:Gh)(l:List AV)(xs:Array Value):Prop:=l.length=xs.size∧∀(k:Nat) (a:AV) (x:Value),l[k]? = some a→xs[k]? = some x→VR g a x
theorem hJ.mono {g g' : Gh}(c:Gh.le g g'){l:List AV}{xs:Array Value}(h:hJ g l xs):hJ g' l xs:=⟨h.1,fun k a x e d=>(h.2 k a x e d).mono c⟩
variable {xs : Array Value} {k : Nat} {a : AV}
theorem hJ.get {l:List AV}(h:hJ g l xs)(e:l[k]? = some a):∃ x,xs[k]? = some x∧VR g a x:=by
 have d:k<l.length:=(mC.1 e).1
 have c:k<xs.size:=h.1▸d
 have hx:xs[k]? = some xs[k]:=Ab c
 exact⟨_,hx,h.2 k a _ e hx⟩
theorem hJ.nil (g:Gh):hJ g [] #[]:=⟨rfl,fun k a x e=>by simp at e⟩
theorem hJ.cons {l:List AV}{xs:List Value}(h:VR g a x)(t:hJ g l xs.toArray):hJ g (a::l) (x::xs).toArray:=by
 refine⟨by simpa using t.1,fun k b y e c=>?_⟩
 cases k with
 | zero=>grind
 | succ k=>exact t.2 k b y (by simpa using e) (by simpa using c)
theorem hJ.append {l m:List AV}{ys:Array Value}(h:hJ g l xs)(d:hJ g m ys):hJ g (l++m) (xs++ys):=by
 refine⟨by simp[h.1,d.1],fun k a x e c=>?_⟩
 by_cases f:k<l.length
 · rw[BX f] at e
   rw[Oc (h.1▸f)] at c
   exact h.2 k a x e c
 · rw[zj (by omega)] at e
   rw[Array.getElem?_append_right (by have:=h.1;omega),←h.1] at c
   exact d.2 _ a x e c
theorem hJ.drop {g:Gh}{l:List AV}{xs:Array Value}(h:hJ g l xs)(n:Nat):hJ g (l.drop n) (xs.extract n xs.size):=by
 refine⟨by simp[h.1],fun k a x e c=>?_⟩
 rw[qW] at e
 rw[Fk] at c
 split at c
 · exact h.2 _ a x e c
 · simp at c
inductive aL where
 | arr (sz : Nat) (es : List AV)
 | mp (kvs : List (AV × AV))
 | lp (st : LoopState) (pending : Option Code) (fn : FuncId) (n mask : Nat) (env : List (Nat × AV)) (params : List Tmp) (assign body : Code)
 | df (open_ : Bool)
 | si (s : ByteArray) (pos : Nat)
 | mi (m since : Nat) (seen : List Nat)
 | mz
 deriving Inhabited
inductive PT where
 | nil
 | node (o : Option aL) (l r : PT)
 deriving Inhabited
noncomputable def PT.get (_:Nat)(t:PT):Nat→Option aL:=
 PT.rec (motive:=fun _=>Nat→Option aL) (fun _=>none)
  (fun o _ _ c d i=>Bool.rec (motive:=fun _=>Option aL) (Bool.rec (motive:=fun _=>Option aL) (c (i/2)) (d (Nat.pred (i/2))) (Nat.beq (i%2) 0)) o (Nat.beq i 0)) t
noncomputable def PT.Jf (n:Nat):PT→Nat→Option aL→PT:=
 Nat.rec (motive:=fun _=>PT→Nat→Option aL→PT) (fun t _ _=>t)
  (fun _ c t i v=>PT.rec (motive:=fun _=>PT)
   (Bool.rec (motive:=fun _=>PT) (Bool.rec (motive:=fun _=>PT) (.node none (c .nil (i/2) v) .nil) (.node none .nil (c .nil (Nat.pred (i/2)) v)) (Nat.beq (i%2) 0)) (.node v .nil .nil) (Nat.beq i 0))
   (fun o l r _ _=>Bool.rec (motive:=fun _=>PT) (Bool.rec (motive:=fun _=>PT) (.node o (c l (i/2) v) r) (.node o l (c r (Nat.pred (i/2)) v)) (Nat.beq (i%2) 0)) (.node v l r) (Nat.beq i 0)) t) n
def PT.set (_:Nat)(t:PT)(i:Nat)(v:Option aL):PT:=PT.Jf (i+1) t i v
theorem PT.get_nil (d i:Nat):PT.get d .nil i=none:=rfl
theorem PT.sw (d:Nat)(o:Option aL)(l r:PT)(i:Nat):PT.get d (.node o l r) i=if i=0 then o else if i%2=0 then PT.get d r (i/2-1) else PT.get d l (i/2):=by
 have e:PT.get d (.node o l r) i=Bool.rec (motive:=fun _=>Option aL) (Bool.rec (motive:=fun _=>Option aL) (PT.get d l (i/2)) (PT.get d r (Nat.pred (i/2))) (Nat.beq (i%2) 0)) o (Nat.beq i 0):=by
   first
    | rfl
    | grind
 rw[e]
 by_cases c:i=0
 · subst c;rfl
 · rw[if_neg c,show Nat.beq i 0=false from by rw[pg];simp_all]
   by_cases h1:i%2=0
   · simp_all
   · rw[if_neg h1,show Nat.beq (i%2) 0=false from by rw[pg];simp_all]
def PT.left : PT→PT
 | .nil=>.nil
 | .node _ l _=>l
def PT.right : PT→PT
 | .nil=>.nil
 | .node _ _ r=>r
def PT.top : PT→Option aL
 | .nil=>none
 | .node o _ _=>o
theorem PT.Iv (n:Nat)(t:PT)(i:Nat)(v:Option aL):PT.Jf (n+1) t i v=if i=0 then .node v t.left t.right else if i%2=0 then .node t.top t.left (PT.Jf n t.right (i/2-1) v) else .node t.top (PT.Jf n t.left (i/2) v) t.right:=by
 have e:PT.Jf (n+1) t i v=Bool.rec (motive:=fun _=>PT) (Bool.rec (motive:=fun _=>PT) (.node t.top (PT.Jf n t.left (i/2) v) t.right) (.node t.top t.left (PT.Jf n t.right (Nat.pred (i/2)) v)) (Nat.beq (i%2) 0)) (.node v t.left t.right) (Nat.beq i 0):=by
   cases t<;>first
    | rfl
    | grind
 rw[e]
 by_cases c:i=0
 · subst c;rfl
 · rw[if_neg c,show Nat.beq i 0=false from by rw[pg];simp_all]
   by_cases h1:i%2=0
   · simp_all
   · rw[if_neg h1,show Nat.beq (i%2) 0=false from by rw[pg];simp_all]
theorem PT.get_eq (d:Nat)(t:PT)(i:Nat):PT.get d t i=if i=0 then t.top else if i%2=0 then PT.get d t.right (i/2-1) else PT.get d t.left (i/2):=by
 cases t<;>grind[PT.get_nil,PT.top,PT.left,PT.right,PT.sw]
theorem PT.Hg (d:Nat)(v:Option aL):∀(n:Nat) (t:PT) (i:Nat),i<n→PT.get d (PT.Jf n t i v) i=v:=by
 intro n
 induction n with
 | zero=>intro t i h;omega
 | succ n e=>
   intro t i h
   rw[PT.Iv]
   by_cases c:i=0
   · subst c;simp[PT.sw]
   · by_cases h1:i%2=0
     · simp only[if_neg c,if_pos h1,PT.sw];grind
     · simp only[if_neg c,if_neg h1,PT.sw];grind
theorem PT.Gl (d:Nat)(v:Option aL):∀(n:Nat) (t:PT) (i j:Nat),i≠j→PT.get d (PT.Jf n t i v) j=PT.get d t j:=by
 intro n
 induction n with
 | zero=>intro t i j h;rfl
 | succ n f=>
   intro t i j h
   rw[PT.Iv,PT.get_eq d t j]
   by_cases c:i=0
   · have e:¬ j=0:=by omega
     simp only[if_pos c,PT.sw,if_neg e]
   · by_cases h1:i%2=0
     · simp only[if_neg c,if_pos h1,PT.sw]
       grind
     · simp only[if_neg c,if_neg h1,PT.sw]
       grind
theorem PT.cO (d:Nat)(t:PT)(i:Nat)(v:Option aL):PT.get d (PT.set d t i v) i=v:=PT.Hg d v _ t i (by omega)
theorem PT.tz (d:Nat)(t:PT)(i j:Nat)(v:Option aL)(h:i≠j):PT.get d (PT.set d t i v) j=PT.get d t j:=PT.Gl d v _ t i j h
abbrev Ok (i:Nat):Prop:=i<i+1
theorem PT.bt (d:Nat)(t:PT)(i j:Nat)(v:Option aL)(_:Ok i)(_:Ok j)(c:i≠j):PT.get d (PT.set d t i v) j=PT.get d t j:=PT.tz d t i j v c
def dep : Nat:=13
structure ag where
 nx : Nat
 lim : Nat
 m : PT
def ag.get (s:ag)(i:Nat):Option aL:=PT.get dep s.m i
def ag.set (s:ag)(i:Nat)(o:aL):ag:=
 match s with
 | ⟨nx,lim,m⟩=>⟨nx,lim,PT.set dep m i (some o)⟩
def ag.del (s:ag)(i:Nat):ag:=
 match s with
 | ⟨nx,lim,m⟩=>⟨nx,lim,PT.set dep m i none⟩
def ag.add (s:ag)(o:aL):ag:=
 match s with
 | ⟨nx,lim,m⟩=>⟨Nat.succ nx,lim,PT.set dep m nx (some o)⟩
def ag.empty : ag:=⟨0,0,.nil⟩
variable {s : ag} {i : Nat}
theorem ag.qh (h:¬ Ok i):s.get i=none:=by grind
theorem ag.cE (_:Ok i):s.get i=PT.get dep s.m i:=rfl
variable {o : aL}
theorem ag.iw (_:s.get i=some o):Ok i:=vi i
theorem ag.fM (i:Nat):ag.empty.get i=none:=by
 by_cases hi:Ok i
 · rw[ag.cE hi];exact PT.get_nil _ _
 · grind
theorem ag.cO {s:ag}{i:Nat}{o:aL}(h:Ok i):(s.set i o).get i=some o:=by
 rw[ag.cE h];exact PT.cO _ _ _ _
theorem ag.bt {s:ag}{i j:Nat}{o:aL}(h:Ok i)(d:j≠i):(s.set i o).get j=s.get j:=by
 by_cases c:Ok j
 · rw[ag.cE c,ag.cE c];exact PT.bt _ _ _ _ _ h c (Ne.symm d)
 all_goals grind
theorem ag.iG : (s.del i).get i=none:=by
 by_cases h:Ok i
 · rw[ag.cE h];exact PT.cO _ _ _ _
 · grind
variable {j : Nat}
theorem ag.dL (h:Ok i)(d:j≠i):(s.del i).get j=s.get j:=by
 by_cases c:Ok j
 · rw[ag.cE c,ag.cE c];exact PT.bt _ _ _ _ _ h c (Ne.symm d)
 all_goals grind
theorem ag.oe (h:Ok s.nx):(s.add o).get s.nx=some o:=by
 rw[ag.cE h];exact PT.cO _ _ _ _
theorem ag.eJ (h:Ok s.nx)(d:j≠s.nx):(s.add o).get j=s.get j:=by
 by_cases c:Ok j
 · rw[ag.cE c,ag.cE c];exact PT.bt _ _ _ _ _ h c (Ne.symm d)
 all_goals grind
noncomputable def lk (l:List (Nat×AV))(t:Nat):Option AV:=
 List.rec (motive:=fun _=>Option AV) none (fun p _ c=>Bool.rec (motive:=fun _=>Option AV) c (some p.2) (Nat.beq p.1 t)) l
noncomputable def up (l:List (Nat×AV))(t:Nat)(v:AV):List (Nat×AV):=
 List.rec (motive:=fun _=>List (Nat×AV)) [(t,v)] (fun p r c=>Bool.rec (motive:=fun _=>List (Nat×AV)) (p::c) ((p.1,v)::r) (Nat.beq p.1 t)) l
theorem qX (t:Nat):lk [] t=none:=rfl
theorem gT (k:Nat)(v:AV)(r:List (Nat×AV))(t:Nat):lk ((k,v)::r) t=match Nat.beq k t with
  | true=>some v
  | false=>lk r t:=by
 cases h:Nat.beq k t
 · exact(show lk ((k,v)::r) t=Bool.rec (motive:=fun _=>Option AV) (lk r t) (some v) (Nat.beq k t) from by grind[lk]).trans (by rw[h])
 · exact(show lk ((k,v)::r) t=Bool.rec (motive:=fun _=>Option AV) (lk r t) (some v) (Nat.beq k t) from by grind[lk]).trans (by rw[h])
theorem Od (t:Nat)(v:AV):up [] t v=[(t,v)]:=rfl
theorem JE (k:Nat)(u:AV)(r:List (Nat×AV))(t:Nat)(v:AV):up ((k,u)::r) t v=match Nat.beq k t with
  | true=>(k,v)::r
  | false=>(k,u)::up r t v:=by
 cases h:Nat.beq k t
 · exact(show up ((k,u)::r) t v=Bool.rec (motive:=fun _=>List (Nat×AV)) ((k,u)::up r t v) ((k,v)::r) (Nat.beq k t) from by grind[up]).trans (by rw[h])
 · exact(show up ((k,u)::r) t v=Bool.rec (motive:=fun _=>List (Nat×AV)) ((k,u)::up r t v) ((k,v)::r) (Nat.beq k t) from by grind[up]).trans (by rw[h])
theorem vG (l:List (Nat×AV))(t:Nat)(v:AV):lk (up l t v) t=some v:=by
 induction l with
 | nil=>simp[Od,gT]
 | cons a r c=>
   obtain⟨k,u⟩:=a
   simp only[JE]
   cases h:Nat.beq k t with
   | true=>simp[gT,h]
   | false=>simp[gT,h,c]
theorem tA (l:List (Nat×AV)){t s:Nat}(v:AV)(d:s≠t):lk (up l t v) s=lk l s:=by
 induction l with
 | nil=>
   simp only[Od,qX,gT]
   rw[show Nat.beq t s=false from by rw[pg];grind[Nat.eq_of_beq_eq_true]]
 | cons a r c=>
   obtain⟨k,u⟩:=a
   simp only[JE]
   cases h:Nat.beq k t with
   | true=>
     have e:k=t:=oR h
     simp only[gT]
     rw[show Nat.beq k s=false from by rw[pg];grind[Nat.eq_of_beq_eq_true]]
   | false=>simp only[gT,c]
def LR (g:Gh)(l:List (Nat×AV))(tmps:Array Value):Prop:=∀(t:Nat) (v:AV),lk l t=some v→∃ x,tmps[t]? = some x∧VR g v x
theorem LR.mono {g g' : Gh}(c:Gh.le g g'){l:List (Nat×AV)}{tmps:Array Value}(h:LR g l tmps):LR g' l tmps:=
 fun t v e=>let ⟨x,hx,d⟩:=h t v e;⟨x,hx,d.mono c⟩
def wH (g:Gh)(l:Loc)(x:Option Obj):aL→Prop
 | .arr sz es=>∃ c t,x=some (.cells c t (0,0))∧c.size=l.bz∧l.sz=sz∧l.base+es.length*sz≤c.size∧(∀ e,e∈es→e.cells.length=sz) ∧
  ∀(i j:Nat) (e a:AV) (y:Value),es[i]? = some e→e.cells[j]? = some a→c[l.base+i*sz+j]? = some y→VR g a y
 | .mp d=>∃ es clock,x=some (.map es clock)∧es.size=d.length ∧
  (∀(k:Nat) (f:AV×AV) (e:MapEntry),d[k]? = some f→es[k]? = some e→VR g f.1 e.key∧VR g f.2 e.val)∧clock=es.size∧∀(k:Nat) (e:MapEntry),es[k]? = some e→e.born=k
 | .lp st pending fn n _ env params assign body=>∃ lo,x=some (.loop lo)∧lo.state=st∧lo.pending=pending∧lo.fn=fn∧lo.tmps.size=n∧LR g env lo.tmps ∧
  lo.params=params.toArray∧lo.assign=assign∧lo.body=body
 | .df o=>x=some (.deferred (if o then some [] else none))
 | .si s p=>x=some (.stringIter s p)∧l.base=0
 | .mi m since seen=>∃ lm,g.ph m=some lm∧x=some (.mapIter (some lm.cZ) since seen.toArray since)∧l.base=0
 | .mz=>∃ a b c,x=some (.mapIter none a b c)∧l.base=0
theorem wH.mono {g g' : Gh}(d:Gh.le g g'){l:Loc}{x:Option Obj}{o:aL}(h:wH g l x o):wH g' l x o:=by
 cases o with
 | arr sz es=>
   obtain⟨c,t,h1,h2,h3,h4,f,u⟩:=h
   exact⟨c,t,h1,h2,h3,h4,f,fun i j e a y p q r=>(u i j e a y p q r).mono d⟩
 | mp E=>
   obtain⟨es,k,h1,h2,h3,h4⟩:=h
   exact⟨es,k,h1,h2,fun i v e p q=>⟨(h3 i v e p q).1.mono d,(h3 i v e p q).2.mono d⟩,h4⟩
 | lp st pending fn n mk env params assign body=>
   obtain⟨lo,h1,h2,h3,h4,f,u,z,C,D⟩:=h
   exact⟨lo,h1,h2,h3,h4,f,u.mono d,z,C,D⟩
 | df o=>exact h
 | si s p=>exact h
 | mi m since seen=>obtain⟨lm,a,b,c⟩:=h;exact⟨lm,d.ph _ _ a,b,c⟩
 | mz=>exact h
theorem wH.some {g:Gh}{l:Loc}{x:Option Obj}{o:aL}(h:wH g l x o):∃ y,x=some y:=by
 cases o with
 | arr sz es=>obtain⟨c,t,h1,_⟩:=h;exact⟨_,h1⟩
 | mp d=>obtain⟨es,k,h1,_⟩:=h;exact⟨_,h1⟩
 | lp st pending fn n mk env params assign body=>obtain⟨lo,h1,_⟩:=h;exact⟨_,h1⟩
 | df o=>exact⟨_,h⟩
 | si s p=>exact⟨_,h.1⟩
 | mi m since seen=>obtain⟨lm,a,b,c⟩:=h;exact⟨_,b⟩
 | mz=>obtain⟨a,b,c,h,_⟩:=h;exact⟨_,h⟩
structure Inv (S : ag) (g : Gh) (w : World) : Prop where
 ro : ∀ b c, g.ro b = some c → ∃ t fz, w.heap[b]? = some (.cells c t fz)
 ob : ∀ id o, S.get id = some o → ∃ l, g.ph id = some l ∧ g.ro l.cZ = none ∧ wH g l w.heap[l.cZ]? o
 inj : ∀ id id' o o' l l', S.get id = some o → S.get id' = some o' → g.ph id = some l → g.ph id' = some l' → l.cZ = l'.cZ → id = id'
 fresh : ∀ id, S.nx ≤ id → g.ph id = none
abbrev La (w' w:World):Prop:=w'.tape=w.tape∧w.drawn≤w'.drawn
theorem La.trans {a b c:World}(h:La a b)(k:La b c):La a c:=by grind
structure Ext (S : ag) (g : Gh) (w : World) (S' : ag) (g' : Gh) (w' : World) : Prop where
 size : w.heap.size ≤ w'.heap.size
 os : w'.os = w.os
 tape : La w' w
 output : w'.output = w.output
 jW : ∀ b, b < w.heap.size → (∀ id o l, S.get id = some o → S.lim ≤ id → g.ph id = some l → l.cZ ≠ b) → w'.heap[b]? = w.heap[b]?
 own : ∀ id o l, S'.get id = some o → S.lim ≤ id → g'.ph id = some l → l.cZ < w.heap.size → ∃ id0 o0 l0, S.get id0 = some o0 ∧ S.lim ≤ id0 ∧ g.ph id0 = some l0 ∧ l0.cZ = l.cZ
 oS : Gh.le g g'
 nx : S.nx ≤ S'.nx
 lim : S'.lim = S.lim
 wU : ∀ id, id < S.lim → S'.get id = S.get id
 vZ : ∀ id, id < S.nx → g'.ph id = g.ph id
 CU : ∀ b c, g'.ro b = some c → b < w.heap.size → g.ro b = some c ∨ ∃ id0 o0 l0, S.get id0 = some o0 ∧ S.lim ≤ id0 ∧ g.ph id0 = some l0 ∧ l0.cZ = b
 dead : ∀ id, id < S.nx → S.get id = none → S'.get id = none
 fz : ∀ a, a.block < w.heap.size → w'.frozen? a = w.frozen? a
theorem Ext.refl (S:ag)(g:Gh)(w:World):Ext S g w S g w:=
 ⟨bG _,rfl,⟨rfl,bG _⟩,rfl,fun _ _ _=>rfl,fun id o l h h1 h2 _=>⟨id,o,l,h,h1,h2,rfl⟩,Gh.le_refl _,bG _,rfl,fun _ _=>rfl,fun _ _=>rfl,fun _ _ e _=>.inl e,fun _ _ e=>e,fun _ _=>rfl⟩
def DF : Option Obj→Bool
 | some (.cells _ _ (0,0))=>true
 | some (.cells _ _ _)=>false
 | _=>true
variable {w : World}
theorem C8 {a:Addr}(h:DF w.heap[a.block]? = true):w.frozen? a=false:=by
 unfold World.frozen?
 generalize w.heap[a.block]? = x at h
 cases x with
 | none=>rfl
 | some ob=>
   grind[DF]
theorem wH.DF {g:Gh}{l:Loc}{x:Option Obj}{o:aL}(h:wH g l x o):DF x=true:=by
 cases o with
 | arr sz es=>obtain⟨c,t,h1,_⟩:=h;rw[h1];rfl
 | mp d=>obtain⟨es,k,h1,_⟩:=h;rw[h1];rfl
 | lp st pending fn n mk env params assign body=>obtain⟨lo,h1,_⟩:=h;rw[h1];rfl
 | df o=>have h:x=_:=h;rw[h];rfl
 | si s p=>rw[h.1];rfl
 | mi m since seen=>obtain⟨lm,a,b,c⟩:=h;rw[b];rfl
 | mz=>obtain⟨a,b,c,h,_⟩:=h;rw[h];rfl
variable {w' : World} {b : Nat}
theorem xw (hb:DF w.heap[b]? = true)(c:DF w'.heap[b]? = true)(d:∀ k,k≠b→w'.heap[k]? = w.heap[k]?)(a:Addr):w'.frozen? a=w.frozen? a:=by
 grind[C8,World.frozen?]
theorem Ext.trans {S G f:ag}{g g' m:Gh}{w w' n:World}(h:Ext S g w G g' w')(k:Ext G g' w' f m n):Ext S g w f m n:=by
 refine⟨mF h.size k.size,k.os.trans h.os,La.trans k.tape h.tape,k.output.trans h.output,?_,?_,Gh.le_trans h.oS k.oS,mF h.nx k.nx,k.lim.trans h.lim,?_,?_,?_,fun id bE e=>k.dead id (mG bE h.nx) (h.dead id bE e),fun a ha=>(k.fz a (mG ha h.size)).trans (h.fz a ha)⟩
 · intro b hb E
   rw[k.jW b (mG hb h.size) ?_,h.jW b hb E]
   intro id o l z C D p
   obtain⟨d,o0,r,t,u,v,y⟩:=h.own id o l z (h.lim▸C) D (p▸hb)
   grind
 · intro id o l z C D p
   obtain⟨d,o0,r,t,u,v,y⟩:=k.own id o l z (h.lim.symm▸C) D (mG p h.size)
   obtain⟨F,o1,l1,H,I,J,K⟩:=h.own d o0 r t (h.lim▸u) v (y▸p)
   grind
 · intro id bE
   rw[k.wU id (h.lim.symm▸bE),h.wU id bE]
 · intro id bE
   rw[k.vZ id (mG bE h.nx),h.vZ id bE]
 · intro b c e hb
   rcases k.CU b c e (mG hb h.size) with q | ⟨d,o0,r,t,u,v,y⟩
   · exact h.CU b c q hb
   · obtain⟨F,o1,l1,H,I,J,K⟩:=h.own d o0 r t (h.lim▸u) v (y▸hb)
     grind
def Gh.add (g:Gh)(id:Nat)(l:Loc):Gh:={ g with ph:=fun k=>if k=id then some l else g.ph k }
theorem Gh.add_same (g:Gh)(id:Nat)(l:Loc):(g.add id l).ph id=some l:=by simp[Gh.add]
variable {id : Nat}
theorem Gh.fq (g:Gh)(l:Loc)(h:k≠id):(g.add id l).ph k=g.ph k:=by simp[Gh.add,h]
theorem Gh.Un (l:Loc)(h:g.ph id=none):Gh.le g (g.add id l):=
 ⟨fun _ _ e=>e,fun k x e=>by rw[Gh.fq];exact e;grind⟩
variable {l : Loc} {S : ag}
theorem Inv.Qc (h:Inv S g w)(e:g.ph id=some l):id<S.nx:=by
 rcases jO id S.nx with k | k
 · exact k
 · rw[h.fresh id k] at e;simp at e
theorem Inv.lO (h:Inv S g w)(e:S.get id=some o):id<S.nx:=
 let ⟨_,c,_,_⟩:=h.ob id o e;h.Qc c
theorem Inv.Zn (h:Inv S g w){c:Array Value}(e:g.ro b=some c):b<w.heap.size:=by
 obtain⟨t,fz,hh⟩:=h.ro b c e
 grind
theorem wH.lt (h:wH g l w.heap[l.cZ]? o):l.cZ<w.heap.size:=by
 grind[wH.some]
theorem Inv.alloc (h:Inv S g w)(n:Ok S.nx){ob:Obj}(H:l.cZ=w.heap.size)(C:wH g l (some ob) o)(hh:w'.heap=w.heap.push ob)(E:w'.os=w.os)(J:La w' w)(F:w'.output=w.output)(I:S.lim≤S.nx) :
   Inv (S.add o) (g.add S.nx l) w' ∧ Ext S g w (S.add o) (g.add S.nx l) w' := by
 have hf:=h.fresh S.nx (bG _)
 have z:Gh.le g (g.add S.nx l):=Gh.Un l hf
 have f:∀ b,b<w.heap.size→w'.heap[b]? = w.heap[b]? := by
   grind
 have r:w'.heap[w.heap.size]? = some ob:=by grind
 have G:g.ro w.heap.size=none:=by
   cases e:g.ro w.heap.size with
   | none=>rfl
   | some c=>exact absurd (h.Zn e) (by omega)
 refine⟨⟨?_,?_,?_,?_⟩,⟨?_,E,J,F,?_,?_,z,?_,rfl,?_,fun k K=>Gh.fq _ _ (by omega),fun _ _ e _=>.inl e,fun id bE e=>by grind[ag.eJ],fun a _=>xw (b:=w.heap.size) (by rw[Array.getElem?_eq_none (bG _)];rfl) (by rw[r];exact C.DF) (fun k K=>by grind) a⟩⟩
 · intro b c e
   obtain⟨t,fz,L⟩:=h.ro b c e
   exact⟨t,fz,(f b (h.Zn e)).trans L⟩
 · intro id M e
   by_cases bE:id=S.nx
   · subst bE
     rw[ag.oe n] at e
     simp only[bj] at e
     subst e
     refine⟨l,Gh.add_same _ _ _,?_,?_⟩
     · rw[H];exact G
     · rw[H,r];exact C.mono z
   · rw[ag.eJ n bE] at e
     obtain⟨l', m,p,q⟩:=h.ob id M e
     refine⟨l', (Gh.fq _ _ bE).trans m,p,?_⟩
     rw[f _ q.lt]
     exact q.mono z
 · intro id D o1 o2 l1 l2 m p u v hb
   by_cases bE:id=S.nx<;>by_cases d:D=S.nx
   · rw[bE,d]
   · exfalso
     subst bE
     rw[Gh.add_same] at u;rw[Gh.fq _ _ d] at v;rw[ag.eJ n d] at p
     obtain⟨l', y,_,q3⟩:=h.ob _ _ p
     rw[v] at y;simp only[bj] at y u;subst y;subst u
     have:=q3.lt;omega
   · exfalso
     subst d
     rw[Gh.add_same] at v;rw[Gh.fq _ _ bE] at u;rw[ag.eJ n bE] at m
     obtain⟨l', y,_,q3⟩:=h.ob _ _ m
     rw[u] at y;simp only[bj] at y v;subst y;subst v
     have:=q3.lt;omega
   · rw[Gh.fq _ _ bE] at u;rw[Gh.fq _ _ d] at v
     rw[ag.eJ n bE] at m;rw[ag.eJ n d] at p
     exact h.inj id D o1 o2 l1 l2 m p u v hb
 · intro id bE
   have d:S.nx+1≤id:=bE
   rw[Gh.fq _ _ (by omega)]
   exact h.fresh id (by omega)
 · rw[hh,Array.size_push];omega
 · intro b hb _;exact f b hb
 · intro id o1 l1 m p q N
   by_cases bE:id=S.nx
   · subst bE;rw[Gh.add_same] at q;simp only[bj] at q;subst q;omega
   · rw[ag.eJ n bE] at m;rw[Gh.fq _ _ bE] at q
     exact⟨id,o1,l1,m,p,q,rfl⟩
 · show S.nx≤S.nx+1;omega
 · intro id bE;exact ag.eJ n (by omega)
variable {o' : aL} {ob' : Obj}
theorem Inv.jr (h:Inv S g w)(bE:S.get id=some o)(p:S.lim≤id)(r:g.ph id=some l)(hs:w'.heap.size=w.heap.size)(hb:w'.heap[l.cZ]? = some ob')(u:∀ k,k≠l.cZ→w'.heap[k]? = w.heap[k]?)(y:w'.os=w.os)(K:La w' w)(z:w'.output=w.output)(C:wH g l (some ob') o') :
   Inv (S.set id o') g w' ∧ Ext S g w (S.set id o') g w' := by
 have hi:=ag.iw bE
 obtain⟨Q,v,q2,q3⟩:=h.ob id o bE
 rw[r] at v;simp only[bj] at v;subst v
 refine ⟨⟨?_,?_,?_,?_⟩,⟨?_,y,K,z,?_,?_,Gh.le_refl _,bG _,rfl,?_,fun _ _=>rfl,fun _ _ e _=>.inl e,fun d _ e=>by
   rw[ag.bt hi (by grind)];exact e,fun a _=>xw (b:=l.cZ) q3.DF (by rw[hb];exact C.DF) u a⟩⟩
 · intro b c e
   obtain⟨t,fz,R⟩:=h.ro b c e
   grind
 · intro d J e
   by_cases f:d=id
   · grind[ag.cO]
   · rw[ag.bt hi f] at e
     obtain⟨l', m,n,q⟩:=h.ob d J e
     refine⟨l', m,n,?_⟩
     rw[u];exact q
     intro L;exact f (h.inj d id J o l' l e bE m r L)
 · intro a b o1 o2 l1 l2 m n M N D
   have key:∀ k o1,(S.set id o').get k=some o1→∃ o2,S.get k=some o2:=by
     intro k o1 e
     by_cases f:k=id
     · subst f;exact⟨o,bE⟩
     · rw[ag.bt hi f] at e;exact⟨o1,e⟩
   obtain⟨E,F⟩:=key a o1 m
   obtain⟨G,H⟩:=key b o2 n
   exact h.inj a b E G l1 l2 F H M N D
 · intro k O;exact h.fresh k O
 · omega
 · intro b P I
   exact u b (fun e=>I id o l bE p r e.symm)
 · intro d o1 l1 m n q T
   by_cases f:d=id
   · subst f;exact⟨d,o,l1,bE,n,q,rfl⟩
   · rw[ag.bt hi f] at m;exact⟨d,o1,l1,m,n,q,rfl⟩
 all_goals grind[ag.bt]
structure ag.sub (A B : ag) : Prop where
 nx : B.nx = A.nx
 lim : A.lim = B.lim
 get : ∀ id o, A.get id = some o → B.get id = some o
variable {A B : ag}
theorem Inv.sub (hs:ag.sub A B)(h:Inv B g w):Inv A g w:=
 ⟨h.ro,fun id o e=>h.ob id o (hs.get id o e),fun id c o o' l l' e d=>h.inj id c o o' l l' (hs.get _ _ e) (hs.get _ _ d),fun id bE=>h.fresh id (by rw[hs.nx];exact bE)⟩
theorem ag.JF (h:Ok id):ag.sub (S.del id) S:=
 ⟨rfl,rfl,fun k o e=>by
  grind[ag.iG,ag.dL]⟩
theorem Ext.forget (hs:ag.sub A B)(c:∀ id,id<B.lim→A.get id=B.get id):Ext B g w A g w:=
 ⟨bG _,rfl,⟨rfl,bG _⟩,rfl,fun _ _ _=>rfl,fun id o l e d f _=>⟨id,o,l,hs.get id o e,d,f,rfl⟩,Gh.le_refl _,by rw[hs.nx];grind,hs.lim,c,fun _ _=>rfl,fun _ _ e _=>.inl e,fun id _ e=>by
  cases q:A.get id with
  | none=>rfl
  | some o=>rw[hs.get id o q] at e;simp at e,fun _ _=>rfl⟩
theorem Inv.move (h:Inv S g w)(N:Ok S.nx){l' : Loc}(bE:S.get id=some o)(p:S.lim≤id)(C:g.ph id=some l)(m:l'.cZ=l.cZ)(hs:w'.heap.size=w.heap.size)(hb:w'.heap[l.cZ]? = some ob')(I:∀ k,k≠l.cZ→w'.heap[k]? = w.heap[k]?)(K:w'.os=w.os)(O:La w' w)(L:w'.output=w.output)(G:wH g l' (some ob') o') :
   Inv ((S.del id).add o') (g.add S.nx l') w' ∧ Ext S g w ((S.del id).add o') (g.add S.nx l') w' := by
 have hi:=ag.iw bE
 have R:=h.lO bE
 have hf:=h.fresh S.nx (bG _)
 have y:Gh.le g (g.add S.nx l'):=Gh.Un l' hf
 have H:Ok (S.del id).nx:=N
 obtain⟨U,J,q2,q3⟩:=h.ob id o bE
 rw[C] at J;simp only[bj] at J;subst J
 have P:((S.del id).add o').get S.nx=some o' := ag.oe (s:=S.del id) H
 have V:∀ k,k≠S.nx→((S.del id).add o').get k=(S.del id).get k:=fun k f=>ag.eJ (s:=S.del id) H f
 have D:∀ k a,k≠S.nx→((S.del id).add o').get k=some a→k≠id∧S.get k=some a:=by
   grind[ag.iG,ag.dL]
 refine ⟨⟨?_,?_,?_,?_⟩,⟨?_,K,O,L,?_,?_,y,?_,rfl,?_,fun k f=>Gh.fq _ _ (by omega),fun _ _ e _=>.inl e,fun k f e=>by
   grind[ag.dL],fun a _=>xw (b:=l.cZ) q3.DF (by rw[hb];exact G.DF) I a⟩⟩
 · intro b c e
   obtain⟨t,fz,n⟩:=h.ro b c e
   refine⟨t,fz,(I b ?_).trans n⟩
   rintro rfl
   have:g.ro l.cZ=some c:=e
   rw[q2] at this;simp at this
 · intro k a e
   by_cases f:k=S.nx
   · subst f;rw[P] at e;simp only[bj] at e;subst e
     refine⟨l', Gh.add_same _ _ _,?_,?_⟩
     · rw[m];exact q2
     · rw[m,hb];exact G.mono y
   · obtain⟨F,n⟩:=D k a f e
     obtain⟨l1,q,E,r⟩:=h.ob k a n
     refine⟨l1,(Gh.fq _ _ f).trans q,E,?_⟩
     rw[I];exact r.mono y
     intro Q;exact F (h.inj k id a o l1 l n bE q C Q)
 · intro a b o1 o2 l1 l2 q E u v z
   by_cases ha:a=S.nx<;>by_cases d:b=S.nx
   · rw[ha,d]
   · exfalso;subst ha
     rw[Gh.add_same] at u;rw[Gh.fq _ _ d] at v
     simp only[bj] at u;subst u
     obtain⟨F,n⟩:=D b o2 d E
     exact F (h.inj b id o2 o l2 l n bE v C (z.symm.trans m))
   · exfalso;subst d
     rw[Gh.add_same] at v;rw[Gh.fq _ _ ha] at u
     simp only[bj] at v;subst v
     obtain⟨F,n⟩:=D a o1 ha q
     exact F (h.inj a id o1 o l1 l n bE u C (z.trans m))
   · rw[Gh.fq _ _ ha] at u;rw[Gh.fq _ _ d] at v
     exact h.inj a b o1 o2 l1 l2 (D a o1 ha q).2 (D b o2 d E).2 u v z
 · intro k f
   have T:S.nx+1≤k:=f
   rw[Gh.fq _ _ (by omega)];exact h.fresh k (by omega)
 · omega
 · intro b d M
   exact I b (fun e=>M id o l bE p C e.symm)
 · intro k o1 l1 q E r W
   by_cases f:k=S.nx
   · subst f;rw[Gh.add_same] at r;simp only[bj] at r;subst r
     exact⟨id,o,l,bE,p,C,m.symm⟩
   · rw[Gh.fq _ _ f] at r
     exact⟨k,o1,l1,(D k o1 f q).2,E,r,rfl⟩
 · show S.nx≤S.nx+1;omega
 all_goals grind[ag.dL]
end
end Go.Eng
namespace Go.Eng
noncomputable section
def nth {α:Type}:List α→Nat→Option α
 | [],_=>none
 | a::_,0=>some a
 | _::l,n+1=>nth l n
variable {α : Type}
theorem j4 (l:List α)(n:Nat):nth l n=l[n]? := by
 induction l generalizing n with
 | nil=>simp[nth]
 | cons a l d=>cases n<;>grind[nth]
def Rh (P:Program)(t:TypeId):Option Bool:=
 match P.underlying t with
 | some (.struct _)=>some true
 | some (.array _ _)=>some true
 | some _=>some false
 | none=>none
def te (P:Program)(t:TypeId):Option Nat:=
 match P.info? t with
 | some i=>some i.size
 | none=>none
section
variable {P : Program} {w : World}
variable {t : TypeId}
theorem ah {d:TypeDesc}(h:P.underlying t=some d):(underlying t).run P w=.ok d w:=by
 simp[underlying,h]
theorem cV {i:TypeInfo}(h:P.info? t=some i):(typeInfo t).run P w=.ok i w:=by
 simp[typeInfo,h]
theorem rP {b:Bool}(h:Rh P t=some b):(isAgg t).run P w=.ok b w:=by
 unfold Rh at h
 split at h<;>simp only[bj,reduceCtorEq] at h
 · rename_i hu;subst h;simp[isAgg,ah hu]
 · rename_i hu;subst h;simp[isAgg,ah hu]
 · rename_i d h1 h2 hu
   subst h
   simp only[isAgg,Sem.run_bind,ah hu,Result.andThen_ok]
   simp_all
variable {n : Nat}
theorem run_sizeOf (h:te P t=some n):(sizeOf t).run P w=.ok n w:=by
 unfold te at h
 split at h<;>simp only[bj,reduceCtorEq] at h
 rename_i i hi
 subst h
 simp[sizeOf,cV hi]
end
theorem Addr.n8 (b o n:Nat):(⟨b,o,none⟩:Addr).add n=⟨b,o+n,none⟩:=by
 grind[Addr.add]
variable {t : TypeId} {w : World} {b o : Nat} {c : Array Value} {fz : Nat × Nat} {x : Value}
theorem cell_of (h:w.heap[b]? = some (.cells c t fz))(hx:c[o]? = some x):w.cell? ⟨b,o,none⟩=some x:=by
 simp[World.cell?, h,hx]
variable {P : Program}
theorem run_loadCellsFrom (h:w.heap[b]? = some (.cells c t fz)):∀(n i:Nat) (a:Array Value),
   o+i+n≤c.size→(loadCellsFrom ⟨b,o,none⟩ i n a).run P w=.ok (a++(c.extract (o+i) (o+i+n))) w:=by
 intro n
 induction n with
 | zero=>
   intro i a d
   have:c.extract (o+i) (o+i+0) = #[]:=by grind
   rw[this];simp[loadCellsFrom]
 | succ n e=>
   intro i a d
   have hx:c[o+i]? = some c[o+i]:=Ab (by omega)
   have f:w.cell? ⟨b,o+i,none⟩=some c[o+i]:=cell_of h hx
   simp only[loadCellsFrom,Sem.run_bind,Addr.n8,run_load,f,Result.andThen_ok]
   rw[e (i+1) _ (by omega)]
   congr 1
   apply Array.ext'
   simp only[BY,Array.toList_push,Array.toList_extract]
   rw[pj]
   congr 1
   have j:o+(i+1)+n-(o+(i+1))=n:=by omega
   have k:o+i+(n+1)-(o+i)=n+1:=by omega
   grind[List.drop_eq_getElem_cons]
variable {n : Nat}
theorem run_loadCells (h:w.heap[b]? = some (.cells c t fz))(a:o+n≤c.size) :
  (loadCells ⟨b,o,none⟩ n).run P w=.ok (c.extract o (o+n)) w:=by
 have:=run_loadCellsFrom (P:=P) h n 0 #[] (by simpa using a)
 simpa [loadCells] using this
def zk (g:Gh)(cs:List AV)(c:Array Value)(o:Nat):Prop:=o+cs.length≤c.size∧∀(j:Nat) (a:AV) (x:Value),cs[j]? = some a→c[o+j]? = some x→VR g a x
theorem zk.drop {g:Gh}{cs:List AV}{c:Array Value}{o:Nat}(h:zk g cs c o){k:Nat}(d:k≤cs.length):zk g (cs.drop k) c (o+k):=by
 refine⟨by have:=h.1;simp;omega,fun j a x e f=>?_⟩
 rw[qW] at e
 exact h.2 (k+j) a x e (by grind)
variable {g : Gh} {cs : List AV}
theorem zk.ti (h:zk g cs c o)(f:n≤cs.length):hJ g (cs.take n) (c.extract o (o+n)):=by
 refine⟨by have:=h.1;simp;omega,fun k a x e d=>?_⟩
 rw[tW] at e
 split at e
 · rw[Fk] at d
   split at d
   · exact h.2 k a x e d
   · simp at d
 · simp at e
def kX (S:ag):AV→Option (List AV)
 | .ptr id i j=>match S.get id with
   | some (.arr _ es)=>match nth es i with
     | some e=>match Nat.ble j e.cells.length with
       | true=>some (e.cells.drop j)
       | false=>none
     | none=>none
   | _=>none
 | .dN cs=>some cs
 | _=>none
variable {S : ag} {v : AV}
theorem xG (hi:Inv S g w)(h:kX S v=some cs)(u:VR g v x) :
   ∃ b o c t fz,x=.pointer (some ⟨b,o,none⟩)∧w.heap[b]? = some (.cells c t fz)∧zk g cs c o:=by
 unfold kX at h
 split at h
 · rename_i id i j
   split at h<;>try (simp at h;done)
   rename_i sz es A
   split at h<;>try (simp at h;done)
   rename_i e m
   rw[j4] at m
   split at h<;>simp only[bj,reduceCtorEq] at h
   rename_i B
   subst h
   cases u with
   | ptr C=>
     rename_i l
     obtain⟨l', h1,h2,h3⟩:=hi.ob _ _ A
     rw[C] at h1;simp only[bj] at h1;subst h1
     obtain⟨c,t,D,H,z,I,E,F⟩:=h3
     have p:=gw B
     refine⟨l.cZ,_,c,t,_,rfl,D,?_⟩
     have d:=E e (vj m)
     have s:i<es.length:=(mC.1 m).1
     have f:l.base+i*l.sz+e.cells.length≤c.size:=by
      rw[d,z]
      have:i*sz+sz≤es.length*sz:=by
       have:(i+1)*sz≤es.length*sz:=yp _ s
       grind
      omega
     have:zk g e.cells c (l.base+i*l.sz):=⟨f,fun k a y q r=>F i k e a y m q (by rw[←z];exact r)⟩
     exact this.drop p
 · cases u with
   | dN G hb hh=>
     simp only[bj] at h;subst h
     obtain⟨t,fz,e⟩:=hi.ro _ _ G
     exact⟨_,_,_,t,fz,rfl,e,hb,hh⟩
 · simp at h
def tX (P:Program)(t:TypeId)(cs:List AV):Option AV:=
 match Rh P t with
 | some true=>match te P t with
   | some n=>match Nat.ble n cs.length with
     | true=>some (.agg (cs.take n))
     | false=>none
   | none=>none
 | some false=>nth cs 0
 | none=>none
theorem A0 (hi:Inv S g w){r:AV}(h:kX S v=some cs)(a:tX P t cs=some r)(j:VR g v x) :
   ∃ y,(Instr.loadAt t x).run P w=.ok y w∧VR g r y:=by
 obtain⟨b,o,c,m,fz,rfl,i,e⟩:=xG hi h j
 unfold tX at a
 split at a
 · rename_i ha
   split at a<;>try (simp at a;done)
   rename_i n k
   split at a<;>simp only[bj,reduceCtorEq] at a
   rename_i d
   have d:=gw d
   subst a
   refine⟨.agg (c.extract o (o+n)),?_,?_⟩
   · simp only[Instr.loadAt,Instr.sureAddr,Sem.run_bind,Sem.run_pure,Result.andThen_ok,loadVar,rP ha,if_true,run_sizeOf k]
     rw[run_loadCells i (by have:=e.1;omega)]
     rfl
   · exact .agg (e.ti d).1 (e.ti d).2
 · rename_i ha
   rw[j4] at a
   have l:0<cs.length:=(mC.1 a).1
   have f:o<c.size:=by have:=e.1;omega
   have hx:c[o]? = some c[o]:=Ab f
   refine⟨c[o],?_,e.2 0 r _ a (by simp)⟩
   simp only[Instr.loadAt,Instr.sureAddr,Sem.run_bind,Sem.run_pure,Result.andThen_ok,loadVar,rP ha,dK,if_false,run_load,cell_of i hx]
 · simp at a
def eD : AV→Bool
 | .agg _=>false
 | .bO _=>false
 | .top=>false
 | _=>true
theorem ry (h:eD v=true)(a:VR g v x):x.oneCell' = true:=by
 cases a with
 | sc d=>cases x<;>first | rfl | simp[Ld] at d
 | agg=>simp[eD] at h
 | bO=>simp[eD] at h
 | top=>simp[eD] at h
 | _=>rfl
def mP {α:Type}:List α→Nat→List α→List α
 | l,_,[]=>l
 | [],_,_=>[]
 | _::l,0,y::ys=>y::mP l 0 ys
 | a::l,n+1,ys=>a::mP l n ys
theorem gz (l:List α)(n:Nat)(ys:List α):(mP l n ys).length=l.length:=by
 induction l generalizing n ys with
 | nil=>cases ys<;>rfl
 | cons a l d=>cases ys with
   | nil=>rfl
   | cons y ys=>cases n<;>simp[mP,d]
theorem iE (l:List α)(n:Nat)(ys:List α)(d:n+ys.length≤l.length)(k:Nat):(mP l n ys)[k]? = if n≤k∧k<n+ys.length then ys[k-n]? else l[k]? := by
 induction l generalizing n ys k with
 | nil=>cases ys<;>simp_all [mP]
 | cons a l e=>cases ys with
   | nil=>grind[mP]
   | cons y ys=>
     cases n with
     | zero=>grind[mP]
     | succ n=>cases k with
       | zero=>simp[mP]
       | succ k=>
         simp only[mP,zl]
         rw[e n (y::ys) (by simp at d ⊢;omega)]
         simp only[pk]
         by_cases h:n≤k∧k<n+(ys.length+1)
         · rw[if_pos h,if_pos (by omega)];congr 1;omega
         · rw[if_neg h,if_neg (by omega)]
def akx : List AV→AV
 | [v]=>match eD v with
   | true=>v
   | false=>.agg [v]
 | l=>.agg l
theorem Iw (l:List AV):(akx l).cells=l:=by
 cases l with
 | nil=>rfl
 | cons v r=>
   cases r with
   | nil=>
     show(match eD v with | true=>v | false=>AV.agg [v]).cells=[v]
     cases a:eD v with
     | false=>rfl
     | true=>cases v<;>first | rfl | simp[eD] at a
   | cons u r=>rfl
def xR (P:Program)(S:ag)(t:TypeId)(p v:AV):Option ag:=
 match p with
 | .ptr id i j=>match S.get id with
   | some (.arr sz es)=>match nth es i with
     | some e=>match te P t with
       | some n=>match Nat.beq v.cells.length n&&Nat.ble (j+n) e.cells.length&&v.cells.all eD&&Nat.ble S.lim id with
         | true=>some (S.set id (.arr sz (es.set i (akx (mP e.cells j v.cells)))))
         | false=>none
       | none=>none
     | none=>none
   | _=>none
 | _=>none
theorem j7 (h:VR g v x)(f:v.cells.all eD=true):hJ g v.cells x.cells:=by
 have one:∀ {u:AV} {y:Value},VR g u y→hJ g [u] #[y]:=by
   intro u y hu
   exact hJ.cons (xs:=[]) hu ⟨rfl,by simp⟩
 cases h with
 | agg i h=>exact⟨i,h⟩
 | sc h=>
   have:Value.cells x = #[x]:=by cases x<;>first | rfl | simp[Ld] at h
   rw[this];exact one (.sc h)
 | bO i h=>simp[AV.cells,eD] at f
 | top=>simp[AV.cells,eD] at f
 | ft=>exact one .ft
 | an=>exact one .an
 | hM a b=>exact one (.hM a b)
 | lit a b c d e=>exact one (.lit a b c d e)
 | jV=>exact one .jV
 | dN a b c=>exact one (.dN a b c)
 | ptr a=>exact one (.ptr a)
 | ai a b c=>exact one (.ai a b c)
 | cQ a=>exact one (.cQ a)
 | fn a b c d=>exact one (.fn a b c d)
 | eu a=>exact one (.eu a)
 | clip a=>exact one (.clip a)
 | rV a=>exact one (.rV a)
theorem ot (d:List Value):∀(w:World) (c:Array Value) (i:Nat),w.heap[b]? = some (.cells c t (0,0))→o+i+d.length≤c.size→(∀ x,x∈d→x.oneCell' = true) →
   ∃ w', (storeCells ⟨b,o,none⟩ d i).run P w=.ok () w' ∧ w'.heap[b]? = some (.cells (mP c.toList (o+i) d).toArray t (0,0))∧(∀ k,k≠b→w'.heap[k]? = w.heap[k]?)∧w'.heap.size=w.heap.size ∧
     w'.os=w.os∧La w' w∧w'.output=w.output:=by
 induction d with
 | nil=>
   intro w c i h _ _
   refine⟨w,by simp[storeCells],?_,fun _ _=>rfl,rfl,rfl,⟨rfl,bG _⟩,rfl⟩
   have:mP c.toList (o+i) []=c.toList:=by cases c.toList<;>rfl
   simp_all
 | cons v d q=>
   intro w c i h a p
   have f:o+i<c.size:=by simp at a;omega
   have hx:c[o+i]? = some c[o+i]:=Ab f
   have r:w.cell? ⟨b,o+i,none⟩=some c[o+i]:=cell_of h hx
   have hf:w.frozen? ⟨b,o+i,none⟩=false:=by simp[World.frozen?, h]
   have s:v.oneCell' = true:=p v (by simp)
   have l:(w.setCell ⟨b,o+i,none⟩ v).heap[b]? = some (.cells (c.setIfInBounds (o+i) v) t (0,0)):=by
     simp[World.setCell,Fl,h]
   obtain⟨w', h1,h2,h3,h4,u,y,z⟩:=q (w.setCell ⟨b,o+i,none⟩ v) (c.setIfInBounds (o+i) v) (i+1) l (by simp at a ⊢;omega) (fun x hx=>p x (by simp[hx]))
   refine⟨w', ?_,?_,?_,?_,u,y,z⟩
   · simp only[storeCells,Sem.run_bind,Addr.n8,run_store P w _ v _ s,r,hf,dK,if_false,Result.andThen_ok]
     exact h1
   · rw[h2]
     congr 3
     apply zm
     intro k
     rw[iE _ _ _ (by simp at a ⊢;omega),iE _ _ _ (by simp at a ⊢;omega)]
     simp only[Array.toList_setIfInBounds,List.getElem?_set,pk,Fm]
     by_cases m:k=o+i
     · subst m
       rw[if_neg (by omega),if_pos rfl,if_pos f,if_pos (by omega)]
       simp
     · by_cases j:o+(i+1)≤k∧k<o+(i+1)+d.length
       · rw[if_pos j,if_pos (by omega)]
         rw[show k-(o+i)=(k-(o+(i+1)))+1 from by omega,zl]
       · rw[if_neg j,if_neg (by omega),if_neg (by omega)]
   · intro k m
     rw[h3 k m]
     simp only[World.setCell,Fl]
     rw[if_neg (fun e=>m e.symm)]
   · rw[h4];simp
theorem Hh {L:ag}(hi:Inv S g w){p:AV}{y:Value}(h:xR P S t p v=some L)(Y:VR g p x)(Z:VR g v y) :
   ∃ w', (Instr.storeAt t x y).run P w=.ok () w' ∧ Inv L g w' ∧ Ext S g w L g w' := by
 unfold xR at h
 split at h<;>try (simp at h;done)
 rename_i id i j
 split at h<;>try (simp at h;done)
 rename_i sz es T
 split at h<;>try (simp at h;done)
 rename_i e J
 rw[j4] at J
 split at h<;>try (simp at h;done)
 rename_i n hn
 split at h<;>simp only[bj,reduceCtorEq] at h
 rename_i s
 subst h
 simp only[aS] at s
 obtain⟨⟨⟨h1,h2⟩,h3⟩,h4⟩:=s
 have h1:v.cells.length=n:=oR h1
 have h2:=gw h2
 have h4:=gw h4
 cases Y with
 | ptr U=>
   rename_i l
   obtain⟨l', M,q2,q3⟩:=hi.ob _ _ T
   rw[U] at M;simp only[bj] at M;subst M
   obtain⟨c,V,p1,p2,u,p4,N,W⟩:=q3
   have r:=N e (vj J)
   have F:i<es.length:=(mC.1 J).1
   have X:i*sz+sz≤es.length*sz:=by
     have:(i+1)*sz≤es.length*sz:=yp _ F
     rw[nY] at this;exact this
   have f:=j7 Z h3
   have I:∀ z,z∈y.cells.toList→z.oneCell' = true:=by
     intro z hz
     obtain⟨k,hk⟩:=hU hz
     have G:y.cells[k]? = some z:=by simpa using hk
     have H:k<v.cells.length:=by rw[f.1];exact(BG.1 G).1
     have ha:v.cells[k]? = some v.cells[k]:=qB H
     exact ry (dg.1 h3 _ (cM H)) (f.2 k _ z ha G)
   have B:y.cells.toList.length=n:=by rw[←h1,f.1];simp
   obtain⟨w', r1,r2,r3,r4,r5,r6,r7⟩:=ot (P:=P) (b:=l.cZ) (o:=l.base+i*l.sz+j) (t:=V) y.cells.toList w c 0 p1 (by rw[B,u];omega) I
   refine⟨w', ?_,?_⟩
   · simp only[Instr.storeAt,Instr.sureAddr,Sem.run_bind,Sem.run_pure,Result.andThen_ok,storeVar,run_sizeOf hn]
     rw[if_neg (by rw[←h1,f.1];simp)]
     exact r1
   · refine hi.jr T h4 U r4 r2 r3 r5 r6 r7 ?_
     refine⟨_,V,rfl,?_,u,?_,?_,?_⟩
     · simp[gz,p2]
     · simp[gz];exact p4
     · intro K O
       rcases List.mem_or_eq_of_mem_set O with hm | hm
       · exact N K hm
       · subst hm;rw[Iw,gz];exact r
     · intro E d K a z A m q
       rw[sd,iE _ _ _ (by rw[B,u];simp;omega),B] at q
       rw[List.getElem?_set] at A
       by_cases C:i=E
       · subst C
         rw[if_pos rfl,if_pos F] at A
         simp only[bj] at A
         subst A
         rw[Iw,iE _ _ _ (by rw[h1];exact h2),h1] at m
         have Q:d<sz:=by
           by_cases s:j≤d∧d<j+n
           · omega
           · rw[if_neg s] at m;rw[←r];exact(mC.1 m).1
         by_cases s:j≤d∧d<j+n
         · rw[if_pos s] at m
           rw[if_pos (by rw[u];omega)] at q
           have e1:l.base+i*sz+d-(l.base+i*l.sz+j+0)=d-j:=by rw[u];omega
           rw[e1] at q
           exact f.2 _ a z m (by simpa using q)
         · rw[if_neg s] at m
           rw[if_neg (by rw[u];omega)] at q
           exact W i d e a z J m (by simpa using q)
       · rw[if_neg C] at A
         have Q:d<sz:=by rw[←N K (vj A)];exact(mC.1 m).1
         have R:¬ (l.base+i*l.sz+j+0≤l.base+E*sz+d∧l.base+E*sz+d<l.base+i*l.sz+j+0+n):=by
           rw[u]
           rintro⟨c1,c2⟩
           rcases Nat.lt_or_gt_of_ne C with D | D
           · have:(i+1)*sz≤E*sz:=yp _ D
             rw[nY] at this;omega
           · have:(E+1)*sz≤i*sz:=yp _ D
             rw[nY] at this;omega
         rw[if_neg R] at q
         exact W E d K a z A m (by simpa using q)
end
end Go.Eng
namespace Go.Eng
noncomputable section
def Oe (op:BinOp)(k:IntKind)(a b:Int):Option Value:=
 match op with
 | .add=>some (.int k (k.wrap (a+b)))
 | .sub=>some (.int k (k.wrap (a-b)))
 | .mul=>some (.int k (k.wrap (a*b)))
 | .quo=>if b=0 then none else some (.int k (k.wrap (a.tdiv b)))
 | .rem=>if b=0 then none else some (.int k (a.tmod b))
 | .and=>some (.int k (k.wrap (BitVec.ofInt k.bits a &&& BitVec.ofInt k.bits b).toNat))
 | .or=>some (.int k (k.wrap (BitVec.ofInt k.bits a ||| BitVec.ofInt k.bits b).toNat))
 | .xor=>some (.int k (k.wrap (BitVec.ofInt k.bits a ^^^ BitVec.ofInt k.bits b).toNat))
 | .andNot=>some (.int k (k.wrap (BitVec.ofInt k.bits a &&& ~~~BitVec.ofInt k.bits b).toNat))
 | .eql=>some (.bool (a==b))
 | .neq=>some (.bool (a != b))
 | .lss=>some (.bool (decide (a<b)))
 | .leq=>some (.bool (decide (a≤b)))
 | .gtr=>some (.bool (decide (a>b)))
 | .geq=>some (.bool (decide (a≥b)))
 | _=>none
def FA (op:BinOp)(k:IntKind)(a b:Int):Option Value:=
 if b<0 then none else
 match op with
 | .shl=>some (.int k (k.wrap (a*2 ^ (min b.toNat k.bits))))
 | .shr=>some (.int k (a.fdiv (2 ^ (min b.toNat k.bits))))
 | _=>none
section
variable {P : Program} {w : World}
variable {op : BinOp} {t : TypeId} {k : IntKind} {b : Int} {v : Value}
theorem OS {a:Int}(h:Oe op k a b=some v):(binOp op t (.int k a) (.int k b)).run P w=.ok v w:=by
 cases op<;>simp only[Oe,bj,reduceCtorEq] at h <;>
  first
   | (subst h;simp[binOp,Op.intArith,Op.intCmp,Op.intBits];done)
   | (split at h
      · simp at h
      · rename_i hb;simp only[bj] at h;subst h;simp[binOp,Op.intDiv,hb])
variable {k' : IntKind}
theorem JZ {a:Int}(h:FA op k a b=some v):(binOp op t (.int k a) (.int k' b)).run P w=.ok v w:=by
 unfold FA at h
 split at h
 · simp at h
 · rename_i hb
   cases op<;>simp only[bj,reduceCtorEq] at h<;>(subst h;simp[binOp,Op.shift,hb])
theorem wu {x y:Operand}{a:Int}:(eqGuard op t x y (.int k a) (.int k' b)).run P w=.ok () w:=by
 unfold eqGuard;split<;>simp
end
def X8 : BinOp→Bool
 | .shl=>true
 | .shr=>true
 | _=>false
def WX (P:Program)(t:TypeId)(a b:Value):Option Bool:=
 match P.underlying t,a,b with
 | some (.int _),.int k x,.int k' y=>if k=k' then some (x==y) else none
 | some .bool,.bool x,.bool y=>some (x==y)
 | some .string,.string x,.string y=>some (x.data.toList==y.data.toList)
 | _,_,_=>none
variable {t : TypeId} {P : Program} {w : World} {d : Nat}
theorem LD {a b:Value}{r:Bool}(h:WX P t a b=some r):(Op.equalIn (d+1) t a b).run P w=.ok r w:=by
 unfold WX at h
 grind[run_equalIn_int,run_equalIn_bool', run_equalIn_string,ByteArray.toList_eq]
def N2 (P : Program) : List Field → List AV → List AV → Option Bool
 | [], _, _ => some true
 | f :: fs, xs, ys => if f.name ≠ "_" ∧ Rh P f.type = some false then
    match nth xs f.offset, nth ys f.offset with
    | some (.sc a), some (.sc b) => match WX P f.type a b with
      | some true => N2 P fs xs ys
      | some false => some false
      | none => none
    | _, _ => none
   else none
variable {g : Gh}
theorem U0 {xs ys:List AV}{c i:Array Value}(hx:hJ g xs c)(hy:hJ g ys i):∀ {fs:List Field} {r:Bool},N2 P fs xs ys=some r →
   (Op.eqFields (d+1) c i fs).run P w=.ok r w:=by
 intro fs
 induction fs with
 | nil=>intro r h;simp only[N2,bj] at h;subst h;simp[Op.eqFields]
 | cons f fs o=>
   intro r h
   simp only[N2] at h
   split at h
   · rename_i p
     obtain⟨j,ha⟩:=p
     split at h
     · rename_i a b l n
       rw[j4] at l n
       obtain⟨z,q,s⟩:=hx.get l
       obtain⟨A,u,q2⟩:=hy.get n
       cases s with | sc _=>?_
       cases q2 with | sc _=>?_
       have k1:(part f.type c f.offset).run P w=.ok a w:=by simp[part,rP ha,q]
       have k2:(part f.type i f.offset).run P w=.ok b w:=by simp[part,rP ha,u]
       split at h<;>try (simp at h;done)
       · rename_i e
         simp only[Op.eqFields,if_pos j,Sem.run_bind,k1,k2,Result.andThen_ok,LD e]
         simpa using o h
       · rename_i e
         simp only[bj] at h;subst h
         simp only[Op.eqFields,if_pos j,Sem.run_bind,k1,k2,Result.andThen_ok,LD e]
         simp
     · simp at h
   · simp at h
def Uo (op:BinOp)(x y:ByteArray):Option Value:=
 match op with
 | .eql=>some (.bool (x.data.toList==y.data.toList))
 | .neq=>some (.bool (!(x.data.toList==y.data.toList)))
 | .lss=>some (.bool (Op.bytesLess x.data.toList y.data.toList))
 | .leq=>some (.bool (Op.bytesLess x.data.toList y.data.toList||x.data.toList==y.data.toList))
 | .gtr=>some (.bool (!(Op.bytesLess x.data.toList y.data.toList||x.data.toList==y.data.toList)))
 | .geq=>some (.bool (!Op.bytesLess x.data.toList y.data.toList))
 | _=>none
def nW (op:BinOp)(r:Bool):Option AV:=
 match op with
 | .eql=>some (.sc (.bool r))
 | .neq=>some (.sc (.bool (!r)))
 | _=>none
def uH (P:Program)(op:BinOp)(t:TypeId)(a b:AV):Option AV:=
 match a,b with
 | .sc (.int k x),.sc (.int k' y)=>match X8 op with
   | true=>match FA op k x y with
     | some v=>match Ld v with
       | true=>some (.sc v)
       | false=>none
     | none=>none
   | false=>if k=k' then
       match Oe op k x y with
       | some v=>match Ld v with
         | true=>some (.sc v)
         | false=>none
       | none=>none
     else none
 | .sc (.bool x),.sc (.bool y)=>match P.underlying t with
   | some .bool=>nW op (x==y)
   | _=>none
 | .sc (.string x),.sc (.string y)=>match Uo op x y with
   | some v=>match Ld v with
     | true=>some (.sc v)
     | false=>none
   | none=>none
 | .ptr _ _ _,.sc (.pointer none)=>match P.underlying t with
   | some (.pointer _)=>nW op false
   | _=>none
 | .dN _,.sc (.pointer none)=>match P.underlying t with
   | some (.pointer _)=>nW op false
   | _=>none
 | .sc (.pointer none),.sc (.pointer none)=>match P.underlying t with
   | some (.pointer _)=>nW op true
   | _=>none
 | .eu _ _,.sc .nilIface=>match P.underlying t with
   | some (.interface _)=>nW op false
   | _=>none
 | .an,.an=>match P.underlying t with
   | some (.slice _)=>nW op true
   | _=>none
 | .ai _ _ _,.an=>match P.underlying t with
   | some (.slice _)=>nW op false
   | _=>none
 | .lit (_::_),.an=>match P.underlying t with
   | some (.slice _)=>nW op false
   | _=>none
 | .fn _ _ _,.sc .nilFunc=>match P.underlying t with
   | some (.func _ _ _)=>nW op false
   | _=>none
 | .rV _,.sc .nilFunc=>match P.underlying t with
   | some (.func _ _ _)=>nW op false
   | _=>none
 | .sc .nilFunc,.sc .nilFunc=>match P.underlying t with
   | some (.func _ _ _)=>nW op true
   | _=>none
 | .cQ _,.sc (.map none)=>match P.underlying t with
   | some (.map _ _)=>nW op false
   | _=>none
 | .sc (.map none),.sc (.map none)=>match P.underlying t with
   | some (.map _ _)=>nW op true
   | _=>none
 | .agg xs,.agg ys=>match P.underlying t with
   | some (.struct fs)=>match P.stoodInHeld t||P.eqGuardType P.depth t with
     | false=>match N2 P fs.toList xs ys with
       | some r=>nW op r
       | none=>none
     | true=>none
   | _=>none
 | _,_=>none
variable {op : BinOp} {x y : Value}
theorem gq {r:Bool}{v:AV}(h:nW op r=some v)(c:(Op.equal t x y).run P w=.ok r w)(h1:binOp .eql t x y=(do pure (.bool (←Op.equal t x y))))(h2:binOp .neq t x y=(do pure (.bool (!(←Op.equal t x y))))):∃ z,(binOp op t x y).run P w=.ok z w∧VR g v z:=by
 cases op<;>simp only[nW,bj,reduceCtorEq] at h
 · subst h;exact⟨_,by rw[h1];simp[c],.sc rfl⟩
 · subst h;exact⟨_,by rw[h2];simp[c],.sc rfl⟩
variable {e : TypeId}
theorem A1 {a:Addr}(hu:P.underlying t=some (.pointer e)):(Op.equalIn (d+1) t (.pointer (some a)) (.pointer none)).run P w=.ok false w:=by
 simp[Op.equalIn,ah hu]
theorem J0 (hu:P.underlying t=some (.pointer e)):(Op.equalIn (d+1) t (.pointer none) (.pointer none)).run P w=.ok true w:=by
 simp[Op.equalIn,ah hu]
variable {v : Value}
theorem J1 {u:TypeId}{c:Array (String×TypeId)}(hu:P.underlying t=some (.interface c)):(Op.equalIn (d+1) t (.iface u v) .nilIface).run P w=.ok false w:=by
 simp[Op.equalIn,ah hu]
variable {xs : Array Value}
theorem C9 {a b c}{f:Fn}{ys:Array Value}(hu:P.underlying t=some (.func a b c)):(Op.equalIn (d+1) t (.func f xs ys) .nilFunc).run P w=.ok false w:=by
 simp[Op.equalIn,ah hu]
theorem U1 {a b c}(hu:P.underlying t=some (.func a b c)):(Op.equalIn (d+1) t .nilFunc .nilFunc).run P w=.ok true w:=by
 simp[Op.equalIn,ah hu]
variable {m : Nat}
theorem J2 {a b:TypeId}(hu:P.underlying t=some (.map a b)):(Op.equalIn (d+1) t (.map (some m)) (.map none)).run P w=.ok false w:=by
 simp[Op.equalIn,ah hu]
theorem RF {a b:TypeId}(hu:P.underlying t=some (.map a b)):(Op.equalIn (d+1) t (.map none) (.map none)).run P w=.ok true w:=by
 simp[Op.equalIn,ah hu]
theorem Hi (hu:P.underlying t=some (.slice e)):(Op.equalIn (d+1) t (.slice none 0 0) (.slice none 0 0)).run P w=.ok true w:=by
 simp[Op.equalIn,ah hu]
theorem uq {a:Addr}{n:Nat}(hu:P.underlying t=some (.slice e)):(Op.equalIn (d+1) t (.slice (some a) m n) (.slice none 0 0)).run P w=.ok false w:=by
 simp[Op.equalIn,ah hu]
variable {a r : AV}
theorem Mp {ox oy:Operand}{b:AV}(h:uH P op t a b=some r)(ha:VR g a x)(hb:VR g b y) :
   ∃ z,(eqGuard op t ox oy x y).run P w=.ok () w∧(binOp op t x y).run P w=.ok z w∧VR g r z:=by
 unfold uH at h
 split at h
 · rename_i k m k' n
   cases ha with | sc _=>?_
   cases hb with | sc _=>?_
   split at h
   · split at h<;>try (simp at h;done)
     rename_i v e
     split at h<;>simp only[bj,reduceCtorEq] at h
     rename_i i;subst h
     exact⟨v,wu,JZ e,.sc i⟩
   · split at h<;>try (simp at h;done)
     rename_i j;subst j
     split at h<;>try (simp at h;done)
     rename_i v e
     split at h<;>simp only[bj,reduceCtorEq] at h
     rename_i i;subst h
     exact⟨v,wu,OS e,.sc i⟩
 · cases ha with | sc _=>?_
   cases hb with | sc _=>?_
   split at h<;>try (simp at h;done)
   rename_i hu
   obtain⟨z,p,q⟩:=gq (P:=P) (w:=w) (g:=g) h (run_equalIn_bool' w 9999 t _ _ hu) (by simp[binOp]) (by simp[binOp])
   exact⟨z,by unfold eqGuard;split<;>simp,p,q⟩
 · cases ha with | sc _=>?_
   cases hb with | sc _=>?_
   split at h<;>try (simp at h;done)
   rename_i v e
   split at h<;>simp only[bj,reduceCtorEq] at h
   rename_i i;subst h
   refine⟨v,by unfold eqGuard;split<;>simp,?_,.sc i⟩
   cases op<;>simp only[Uo,bj,reduceCtorEq] at e<;>(subst e;simp[binOp,Op.stringOp,ByteArray.toList_eq])
 · cases hb with | sc _=>?_
   cases ha with | ptr _=>?_
   split at h<;>try (simp at h;done)
   rename_i hu
   have c:=fun a=>A1 (P:=P) (w:=w) (d:=9999) (a:=a) hu
   obtain⟨z,p,q⟩:=gq (P:=P) (w:=w) (g:=g) h (c _) (by simp[binOp]) (by simp[binOp])
   exact⟨z,by unfold eqGuard;split<;>simp,p,q⟩
 · cases hb with | sc _=>?_
   cases ha with | dN _ _ _=>?_
   split at h<;>try (simp at h;done)
   rename_i hu
   have c:=fun a=>A1 (P:=P) (w:=w) (d:=9999) (a:=a) hu
   obtain⟨z,p,q⟩:=gq (P:=P) (w:=w) (g:=g) h (c _) (by simp[binOp]) (by simp[binOp])
   exact⟨z,by unfold eqGuard;split<;>simp,p,q⟩
 · cases hb with | sc _=>?_
   cases ha with | sc _=>?_
   split at h<;>try (simp at h;done)
   rename_i hu
   have c:=J0 (P:=P) (w:=w) (d:=9999) hu
   obtain⟨z,p,q⟩:=gq (P:=P) (w:=w) (g:=g) h c (by simp[binOp]) (by simp[binOp])
   exact⟨z,by unfold eqGuard;split<;>simp,p,q⟩
 · cases hb with | sc _=>?_
   cases ha with | eu _=>?_
   split at h<;>try (simp at h;done)
   rename_i hu
   have c:=fun u v=>J1 (P:=P) (w:=w) (d:=9999) (u:=u) (v:=v) hu
   obtain⟨z,p,q⟩:=gq (P:=P) (w:=w) (g:=g) h (c _ _) (by simp[binOp]) (by simp[binOp])
   exact⟨z,by unfold eqGuard;split<;>simp,p,q⟩
 · cases ha with | an=>?_
   cases hb with | an=>?_
   split at h<;>try (simp at h;done)
   rename_i hu
   have c:=Hi (P:=P) (w:=w) (d:=9999) hu
   obtain⟨z,p,q⟩:=gq (P:=P) (w:=w) (g:=g) h c (by simp[binOp]) (by simp[binOp])
   exact⟨z,by unfold eqGuard;split<;>simp,p,q⟩
 · cases hb with | an=>?_
   split at h<;>try (simp at h;done)
   rename_i hu
   have c:=fun a m n=>uq (P:=P) (w:=w) (d:=9999) (a:=a) (m:=m) (n:=n) hu
   cases ha with
   | ai _ _ _=>
     obtain⟨z,p,q⟩:=gq (P:=P) (w:=w) (g:=g) h (c _ _ _) (by simp[binOp]) (by simp[binOp])
     exact⟨z,by unfold eqGuard;split<;>simp,p,q⟩
   | hM=>
     obtain⟨z,p,q⟩:=gq (P:=P) (w:=w) (g:=g) h (c _ _ _) (by simp[binOp]) (by simp[binOp])
     exact⟨z,by unfold eqGuard;split<;>simp,p,q⟩
 · cases hb with | an=>?_
   split at h<;>try (simp at h;done)
   rename_i hu
   have c:=fun a m n=>uq (P:=P) (w:=w) (d:=9999) (a:=a) (m:=m) (n:=n) hu
   cases ha with
   | lit _ _ _ _ _=>
     obtain⟨z,p,q⟩:=gq (P:=P) (w:=w) (g:=g) h (c _ _ _) (by simp[binOp]) (by simp[binOp])
     exact⟨z,by unfold eqGuard;split<;>simp,p,q⟩
 · cases hb with | sc _=>?_
   cases ha with | fn _ _ _ _=>?_
   split at h<;>try (simp at h;done)
   rename_i hu
   obtain⟨z,p,q⟩:=gq (P:=P) (w:=w) (g:=g) h (C9 (d:=9999) hu) (by simp[binOp]) (by simp[binOp])
   exact⟨z,by unfold eqGuard;split<;>simp,p,q⟩
 · cases hb with | sc _=>?_
   cases ha with | rV _=>?_
   split at h<;>try (simp at h;done)
   rename_i hu
   obtain⟨z,p,q⟩:=gq (P:=P) (w:=w) (g:=g) h (C9 (d:=9999) hu) (by simp[binOp]) (by simp[binOp])
   exact⟨z,by unfold eqGuard;split<;>simp,p,q⟩
 · cases hb with | sc _=>?_
   cases ha with | sc _=>?_
   split at h<;>try (simp at h;done)
   rename_i hu
   obtain⟨z,p,q⟩:=gq (P:=P) (w:=w) (g:=g) h (U1 (d:=9999) hu) (by simp[binOp]) (by simp[binOp])
   exact⟨z,by unfold eqGuard;split<;>simp,p,q⟩
 · cases hb with | sc _=>?_
   cases ha with | cQ _=>?_
   split at h<;>try (simp at h;done)
   rename_i hu
   obtain⟨z,p,q⟩:=gq (P:=P) (w:=w) (g:=g) h (J2 (d:=9999) hu) (by simp[binOp]) (by simp[binOp])
   exact⟨z,by unfold eqGuard;split<;>simp,p,q⟩
 · cases hb with | sc _=>?_
   cases ha with | sc _=>?_
   split at h<;>try (simp at h;done)
   rename_i hu
   obtain⟨z,p,q⟩:=gq (P:=P) (w:=w) (g:=g) h (RF (d:=9999) hu) (by simp[binOp]) (by simp[binOp])
   exact⟨z,by unfold eqGuard;split<;>simp,p,q⟩
 · rename_i xs ys
   cases ha with | agg l1 h1=>?_
   rename_i l
   cases hb with | agg l2 h2=>?_
   rename_i o
   split at h<;>try (simp at h;done)
   rename_i fs hu
   split at h<;>try (simp at h;done)
   rename_i hs
   rw[Bool.or_eq_false_iff] at hs
   split at h<;>try (simp at h;done)
   rename_i r e
   have hf:P.fieldsOf t=fs:=by simp[Program.fieldsOf,hu]
   have c:(Op.equal t (.agg l) (.agg o)).run P w=.ok r w:=by
     simp only[Op.equal,Op.maxDepth]
     rw[run_equalIn_struct (P:=P) w 9999 t _ _ (by rw[hf];exact hu) hs.1,hf]
     exact U0 (d:=9998) ⟨l1,h1⟩ ⟨l2,h2⟩ e
   obtain⟨z,p,q⟩:=gq (P:=P) (w:=w) (g:=g) h c (by simp[binOp]) (by simp[binOp])
   exact⟨z,run_eqGuard_agg w op t ox oy _ _ hs.2,p,q⟩
 · simp at h
def Tg (op:UnOp)(a:AV):Option AV:=
 match op,a with
 | .not,.sc (.bool b)=>some (.sc (.bool (!b)))
 | .neg,.sc (.int k n)=>some (.sc (.int k (k.wrap (0-n))))
 | _,_=>none
theorem OT {op:UnOp}(h:Tg op a=some r)(ha:VR g a x):∃ z,(Op.unary op x).run P w=.ok z w∧VR g r z:=by
 unfold Tg at h
 split at h<;>simp only[bj,reduceCtorEq] at h
 · subst h;cases ha with | sc _=>exact⟨_,by simp[Op.unary],.sc rfl⟩
 · subst h;cases ha with | sc _=>exact⟨_,by simp[Op.unary,Op.intArith],.sc rfl⟩
def Fo (P:Program)(c h:TypeId)(a:AV):Option AV:=
 match P.underlying c,P.underlying h,a with
 | some (.int _),some (.int k),.sc (.int _ n)=>some (.sc (.int k (k.wrap n)))
 | _,_,_=>none
theorem J3 {c i:TypeId}(h:Fo P c i a=some r)(ha:VR g a x):∃ z,(convert c i x).run P w=.ok z w∧VR g r z:=by
 unfold Fo at h
 split at h<;>simp only[bj,reduceCtorEq] at h
 rename_i h1 h2
 subst h;cases ha with | sc _=>exact⟨_,by simp[convert,ah h1,ah h2,Conv.intToInt],.sc rfl⟩
def Fp (P:Program)(t:TypeId)(cs:List AV)(off:Nat):Option AV:=
 match Rh P t with
 | some true=>match te P t with
   | some n=>match Nat.ble (off+n) cs.length with
     | true=>some (.agg ((cs.drop off).take n))
     | false=>none
   | none=>none
 | some false=>nth cs off
 | none=>none
theorem vR {cs:List AV}{off:Nat}(h:Fp P t cs off=some r)(j:hJ g cs xs) :
   ∃ z,(part t xs off).run P w=.ok z w∧VR g r z:=by
 unfold Fp at h
 split at h
 · rename_i ha
   split at h<;>try (simp at h;done)
   rename_i n l
   split at h<;>simp only[bj,reduceCtorEq] at h
   rename_i c
   have c:=gw c
   subst h
   refine⟨.agg (xs.extract off (off+n)),by simp[part,rP ha,run_sizeOf l],.agg ?_ ?_⟩
   · have:=j.1;simp;omega
   · intro k a x e i
     rw[tW] at e
     split at e
     · rw[qW] at e
       rw[Fk] at i
       split at i
       · exact j.2 _ a x e i
       · simp at i
     · simp at e
 · rename_i ha
   rw[j4] at h
   obtain⟨x,e,o⟩:=j.get h
   exact⟨x,by simp[part,rP ha,e],o⟩
 · simp at h
def Et (P:Program)(xt:TypeId)(a:AV)(f:Nat):Option AV:=
 match P.underlying xt,a with
 | some (.struct fs),.agg cs=>match nth fs.toList f with
   | some d=>Fp P d.type cs d.offset
   | none=>none
 | _,_=>none
variable {f : Nat}
theorem Hj {xt:TypeId}(h:Et P xt a f=some r)(ha:VR g a x):∃ z,(Instr.field xt x f).run P w=.ok z w∧VR g r z:=by
 unfold Et at h
 split at h<;>try (simp at h;done)
 rename_i fs cs hu
 split at h<;>try (simp at h;done)
 rename_i d i
 rw[j4] at i
 have c:fs[f]? = some d:=by simpa using i
 cases ha with
 | agg j hh=>
   obtain⟨z,e,l⟩:=vR (P:=P) (w:=w) h ⟨j,hh⟩
   exact⟨z,by simp[Instr.field,ah hu,c,asAgg,e],l⟩
def tB (P:Program)(s:TypeId)(a:AV)(f:Nat):Option AV:=
 match P.underlying s with
 | some (.struct fs)=>match nth fs.toList f with
   | some d=>match te P d.type with
     | some (_+1)=>match a with
       | .ptr id i j=>some (.ptr id i (j+d.offset))
       | .dN cs=>match Nat.ble d.offset cs.length with
         | true=>some (.dN (cs.drop d.offset))
         | false=>none
       | _=>none
     | _=>none
   | none=>none
 | _=>none
theorem Bn {s:TypeId}(h:tB P s a f=some r)(ha:VR g a x):∃ z,(Instr.fieldAt s x f).run P w=.ok z w∧VR g r z:=by
 unfold tB at h
 split at h<;>try (simp at h;done)
 rename_i fs hu
 split at h<;>try (simp at h;done)
 rename_i d l
 rw[j4] at l
 have i:fs[f]? = some d:=by simpa using l
 split at h<;>try (simp at h;done)
 rename_i n p
 have key:∀ b o,(Instr.fieldAt s (.pointer (some ⟨b,o,none⟩)) f).run P w=.ok (.pointer (some ⟨b,o+d.offset,none⟩)) w:=by
   intro b o
   simp[Instr.fieldAt,ah hu,i,Instr.sureAddr,fieldPlace,run_sizeOf p,Addr.n8]
 split at h
 · simp only[bj] at h;subst h
   cases ha with
   | ptr q=>exact⟨_,key _ _,by rw[Nat.add_assoc];exact .ptr q⟩
 · split at h<;>simp only[bj,reduceCtorEq] at h
   rename_i c
   have c:=gw c
   subst h
   cases ha with
   | dN u hb hh=>
     refine⟨_,key _ _,.dN u (by simp;omega) ?_⟩
     intro j a y e A
     rw[qW] at e
     exact hh _ a y e (by rw[←A];congr 1;omega)
 · simp at h
def dP (P:Program)(S:ag)(t:TypeId)(a c:AV):Option AV:=
 match c with
 | .sc (.int _ (.ofNat k))=>match P.underlying t with
   | some (.slice el)=>match te P el with
     | some n=>match a with
       | .ai id off len=>match Nat.ble (k+1) len with
         | true=>match S.get id with
           | some (.arr sz _)=>match Nat.beq sz n with
             | true=>some (.ptr id (off+k) 0)
             | false=>none
           | _=>none
         | false=>none
       | .lit es=>match nth es k with
         | some e=>match Nat.beq e.cells.length n with
           | true=>some (.dN e.cells)
           | false=>none
         | none=>none
       | _=>none
     | none=>none
   | some (.array len el)=>match te P el with
     | some n=>match Nat.ble (k+1) len with
       | true=>match a with
         | .ptr id i j=>some (.ptr id i (j+k*n))
         | .dN cs=>match Nat.ble (k*n) cs.length with
           | true=>some (.dN (cs.drop (k*n)))
           | false=>none
         | _=>none
       | false=>none
     | none=>none
   | _=>none
 | _=>none
theorem Bo {S:ag}(hi:Inv S g w){F:AV}(h:dP P S t a F=some r)(ha:VR g a x)(hx:VR g F y) :
   ∃ z,(Instr.indexAt t x y).run P w=.ok z w∧VR g r z:=by
 unfold dP at h
 split at h<;>try (simp at h;done)
 rename_i G k
 cases hx with | sc _=>?_
 split at h<;>try (simp at h;done)
 · rename_i el hu
   split at h<;>try (simp at h;done)
   rename_i n C
   have key:∀ b o len cap,k<len→(Instr.indexAt t (.slice (some ⟨b,o,none⟩) len cap) (.int G (.ofNat k))).run P w=.ok (.pointer (some ⟨b,o+k*n,none⟩)) w:=by
     intro b o len cap s
     simp only[Instr.indexAt,asIntOf,Sem.run_bind,Sem.run_pure,Result.andThen_ok,ah hu]
     rw[if_pos (by constructor<;>simp;omega)]
     simp[run_sizeOf C,Addr.n8]
   split at h
   · rename_i id off len
     split at h<;>try (simp at h;done)
     rename_i s
     have s:=gw s
     split at h<;>try (simp at h;done)
     rename_i sz es J
     split at h<;>simp only[bj,reduceCtorEq] at h
     rename_i i
     have i:=oR i
     subst h
     cases ha with
     | hM=>omega
     | ai A N hb=>
       rename_i cap l
       obtain⟨l', D,q2,q3⟩:=hi.ob _ _ J
       rw[A] at D;simp only[bj] at D;subst D
       obtain⟨c,O,Q,R,K,T,U,V⟩:=q3
       refine⟨_,key _ _ _ _ (by omega),?_⟩
       have:l.base+off*l.sz+k*n=l.base+(off+k)*l.sz+0:=by rw[K,i,gD];omega
       exact this ▸ .ptr A
   · rename_i es
     split at h<;>try (simp at h;done)
     rename_i e B
     rw[j4] at B
     have p:k<es.length:=(mC.1 B).1
     split at h<;>simp only[bj,reduceCtorEq] at h
     rename_i i
     have i:=oR i
     subst h
     cases ha with
     | lit E hs hb I hh=>
       rename_i b o sz cap c
       have H:=hs e (vj B)
       refine⟨_,key _ _ _ _ p,.dN E ?_ ?_⟩
       · have:k*sz+sz≤es.length*sz:=by
          have:(k+1)*sz≤es.length*sz:=yp _ p
          rw[nY] at this;exact this
         rw[i,←i,H];omega
       · intro j a z q L
         exact hh k j e a z B q (by rw[←L,←i,H])
     | jV=>simp at p
   · simp at h
 · rename_i len el hu
   split at h<;>try (simp at h;done)
   rename_i n C
   split at h<;>try (simp at h;done)
   rename_i s
   have s:=gw s
   have key:∀ b o,(Instr.indexAt t (.pointer (some ⟨b,o,none⟩)) (.int G (.ofNat k))).run P w=.ok (.pointer (some ⟨b,o+k*n,none⟩)) w:=by
     intro b o
     simp only[Instr.indexAt,asIntOf,Sem.run_bind,Sem.run_pure,Result.andThen_ok,ah hu,Instr.sureAddr]
     rw[if_pos (by constructor<;>simp;omega)]
     simp[run_sizeOf C,Addr.n8]
   split at h
   · simp only[bj] at h;subst h
     cases ha with
     | ptr A=>exact⟨_,key _ _,by rw[Nat.add_assoc];exact .ptr A⟩
   · split at h<;>simp only[bj,reduceCtorEq] at h
     rename_i u
     have u:=gw u
     subst h
     cases ha with
     | dN E hb hh=>
       refine⟨_,key _ _,.dN E (by simp;omega) ?_⟩
       intro j a y e M
       rw[qW] at e
       exact hh _ a y e (by rw[←M];congr 1;omega)
   · simp at h
end
end Go.Eng
namespace Go.Eng
noncomputable section
def wc : AV→Option Nat
 | .sc (.int _ (.ofNat k))=>some k
 | _=>none
variable {g : Gh} {a : AV} {x : Value}
theorem ia {k:Nat}(h:wc a=some k)(b:VR g a x):∃ c,x=.int c (.ofNat k):=by
 unfold wc at h
 split at h<;>simp only[bj,reduceCtorEq] at h
 subst h;cases b<;>grind
def K4 (d:Nat):Option AV→Option Nat
 | none=>some d
 | some a=>wc a
def Z8 (s:ByteArray)(l h:Nat):ByteArray:=⟨((s.data.toList.take h).drop l).toArray⟩
theorem X9 (s:ByteArray)(l h:Nat):Z8 s l h=s.extract l h:=by
 apply ByteArray.ext
 rw[ByteArray.data_extract]
 apply Array.ext'
 simp[Z8,List.drop_take]
def TV (a:AV)(lo hi:Option AV):Option AV:=
 match a with
 | .sc (.string s)=>match K4 0 lo,K4 s.size hi with
   | some l,some h=>match Nat.ble l h&&Nat.ble h s.size with
     | true=>some (.sc (.string (Z8 s l h)))
     | false=>none
   | _,_=>none
 | _=>none
def Up (S:ag)(id off l h n:Nat):Option AV:=
 match S.get id with
 | some (.arr sz es)=>match Nat.beq sz n&&Nat.ble l h&&Nat.ble 1 n&&Nat.ble (off+h) es.length with
   | true=>some (.ai id (off+l) (h-l))
   | false=>none
 | _=>none
def vA (P:Program)(S:ag)(t:TypeId)(a:AV)(lo hi:Option AV):Option AV:=
 match P.underlying t with
 | some (.slice el)=>match te P el,a with
   | some n,.ai id off len=>match K4 0 lo,K4 len hi with
     | some l,some h=>match Nat.ble l h&&Nat.ble h len with
       | true=>match S.get id with
         | some (.arr sz _)=>match Nat.beq sz n with
           | true=>some (.ai id (off+l) (h-l))
           | false=>none
         | _=>none
       | false=>Up S id off l h n
     | _,_=>none
   | some n,.lit es=>match K4 0 lo,K4 es.length hi with
     | some l,some h=>match Nat.ble l h&&Nat.ble h es.length&&es.all (fun e=>Nat.beq e.cells.length n) with
       | true=>some (.lit ((es.take h).drop l))
       | false=>none
     | _,_=>none
   | some _,.an=>match K4 0 lo,K4 0 hi with
     | some 0,some 0=>some .an
     | _,_=>none
   | some _,.ft=>match K4 0 lo,K4 0 hi with
     | some 0,some 0=>some .ft
     | _,_=>none
   | _,_=>none
 | some .string=>TV a lo hi
 | _=>none
variable {P : Program} {w : World}
theorem run_sliceBound {k:IntKind}{n y:Nat}{c:BoundsCode}(h:n≤y):(Instr.sliceBound (.int k (.ofNat n)) y c).run P w=.ok n w:=by
 simp only[Instr.sliceBound,asIntOf,Sem.run_bind,Sem.run_pure,Result.andThen_ok]
 simp_all
variable {h : Nat} {lo hi : Option AV} {lx hx : Option Value}
theorem wv {b:Bool}{len cap l:Nat}(d:K4 0 lo=some l)(hh:K4 len hi=some h)(h1:l≤h)(h2:h≤cap)(f:∀ a x,lo=some a→lx=some x→VR g a x)(i:∀ a x,hi=some a→hx=some x→VR g a x)(el:lo.isSome=lx.isSome)(e:hi.isSome=hx.isSome) :
  (Instr.sliceBounds b len cap lx hx none).run P w=.ok (l,h,cap) w:=by
 have j:(hx=none∧len=h)∨∃ c,hx=some (.int c (.ofNat h)):=by
  cases hi with
  | none=>
    cases hx with
    | none=>simp only[K4,bj] at hh;grind
    | some x=>simp at e
  | some a=>
    cases hx with
    | none=>simp at e
    | some x=>obtain⟨c,rfl⟩:=ia hh (i a x rfl rfl);grind
 have k:(lx=none∧0=l)∨∃ c,lx=some (.int c (.ofNat l)):=by
  cases lo with
  | none=>
    cases lx with
    | none=>simp only[K4,bj] at d;grind
    | some x=>simp at el
  | some a=>
    cases lx with
    | none=>simp at el
    | some x=>obtain⟨c,rfl⟩:=ia d (f a x rfl rfl);grind
 rcases j with⟨rfl,rfl⟩ | ⟨c,rfl⟩<;>rcases k with⟨rfl,rfl⟩ | ⟨m,rfl⟩ <;>
  simp only[Instr.sliceBounds,Sem.run_bind,Sem.run_pure,Result.andThen_ok,run_sliceBound h1,run_sliceBound h2]
variable {t : TypeId} {r : AV}
theorem Mq (hu:P.underlying t=some .string)(h:TV a lo hi=some r)(ha:VR g a x)(c:∀ a x,lo=some a→lx=some x→VR g a x)(d:∀ a x,hi=some a→hx=some x→VR g a x)(el:lo.isSome=lx.isSome)(e:hi.isSome=hx.isSome) :
   ∃ z,(Instr.sliceAt t x lx hx none).run P w=.ok z w∧VR g r z:=by
 unfold TV at h
 split at h<;>try (simp at h;done)
 rename_i s
 split at h<;>try (simp at h;done)
 rename_i l hh f i
 split at h<;>simp only[bj,reduceCtorEq] at h
 rename_i b
 simp only[aS] at b
 subst h
 cases ha with
 | sc _=>
   refine⟨.string (s.extract l hh),?_,by rw[X9];exact .sc rfl⟩
   simp only[Instr.sliceAt,Sem.run_bind,ah hu,Result.andThen_ok,Instr.slice,Option.isSome_none,dK,if_false,Sem.run_pure]
   rw[wv f i (gw b.1) (gw b.2) c d el e]
   simp
theorem Hk {S:ag}(M:Inv S g w)(h:vA P S t a lo hi=some r)(ha:VR g a x)(R:∀ a x,lo=some a→lx=some x→VR g a x)(T:∀ a x,hi=some a→hx=some x→VR g a x)(el:lo.isSome=lx.isSome)(U:hi.isSome=hx.isSome) :
   ∃ z,(Instr.sliceAt t x lx hx none).run P w=.ok z w∧VR g r z:=by
 unfold vA at h
 split at h
 case h_2 hu=>exact Mq hu h ha R T el U
 case h_3=>simp at h
 rename_i N hu
 have key:∀(b:Option Addr) (len cap l hh n:Nat),te P N=some n→K4 0 lo=some l→K4 len hi=some hh→l≤hh→hh≤cap →
     (Instr.sliceAt t (.slice b len cap) lx hx none).run P w=.ok (.slice (if cap=l then b else b.map (·.add (l*n))) (hh-l) (cap-l)) w:=by
   intro b len cap l hh n q s p X Y
   simp only[Instr.sliceAt,Sem.run_bind,ah hu,Result.andThen_ok,Instr.slice]
   rw[wv s p X Y R T el U]
   simp[run_sizeOf q]
 split at h<;>try (simp at h;done)
 · rename_i n id off len q
   split at h<;>try (simp at h;done)
   rename_i l hh s p
   have fin:∀(sz:Nat) (es:List AV),S.get id=some (.arr sz es)→sz=n→l≤hh→(hh≤len∨(1≤n∧off+hh≤es.length))→r=.ai id (off+l) (hh-l) →
       ∃ z,(Instr.sliceAt t x lx hx none).run P w=.ok z w∧VR g r z:=by
     intro sz es E d c1 c2 J
     subst J
     obtain⟨V,C,q2,q3⟩:=M.ob _ _ E
     obtain⟨c,t', p1,Z,K,p4,p5,p6⟩:=q3
     have v:1≤n∧off+hh≤es.length→V.base+(off+hh)*n≤V.bz:=by
       intro k
       have:(off+hh)*n≤es.length*n:=yp _ k.2
       rw[←Z];rw[d] at p4;omega
     cases ha with
     | hM D u=>
       rw[D] at C;simp only[bj] at C;subst C
       have O:hh=0:=by
         rcases c2 with k | k
         · omega
         · have h1:=v k
           rw[K,d] at u
           rw[gD] at h1
           have h2:hh*1≤hh*n:=Nat.mul_le_mul_left _ k.1
           omega
       have:l=0:=by omega
       subst this;subst O
       refine⟨_,key _ 0 0 0 0 n q s p (bG _) (bG _),?_⟩
       simp only[if_true,Nat.sub_zero]
       exact .hM D u
     | ai D G hb=>
       rename_i cap H
       rw[D] at C;simp only[bj] at C;subst C
       have Q:hh≤cap:=by
         rcases c2 with k | k
         · omega
         · have h1:=v k
           rw[K,d] at hb
           have h2:(off+hh)*n≤(off+cap)*n:=by omega
           have:=Nat.le_of_mul_le_mul_right h2 k.1
           omega
       refine⟨_,key _ len cap l hh n q s p c1 Q,?_⟩
       by_cases A:cap=l
       · rw[if_pos A]
         have z1:hh-l=0:=by omega
         have z2:cap-l=0:=by omega
         rw[z1,z2];exact .hM D (by rw[←A];exact hb)
       · rw[if_neg A]
         simp only[lP,Addr.n8]
         have:H.base+off*H.sz+l*n=H.base+(off+l)*H.sz:=by rw[K,d,gD];omega
         rw[this]
         exact .ai D (by omega) (by rw[show off+l+(cap-l)=off+cap from by omega];exact hb)
   split at h
   · rename_i m
     simp only[aS] at m
     split at h<;>try (simp at h;done)
     rename_i sz es E
     split at h<;>simp only[bj,reduceCtorEq] at h
     rename_i d
     exact fin sz es E (oR d) (gw m.1) (.inl (gw m.2)) h.symm
   · unfold Up at h
     split at h<;>try (simp at h;done)
     rename_i sz es E
     split at h<;>simp only[bj,reduceCtorEq] at h
     rename_i m
     simp only[aS] at m
     exact fin sz es E (oR m.1.1.1) (gw m.1.1.2) (.inr ⟨gw m.1.2,gw m.2⟩) h.symm
 · rename_i n es q
   split at h<;>try (simp at h;done)
   rename_i l hh s p
   split at h<;>simp only[bj,reduceCtorEq] at h
   rename_i m
   simp only[aS] at m
   have c1:=gw m.1.1
   have c2:=gw m.1.2
   have c3:=dg.1 m.2
   subst h
   have f:((es.take hh).drop l).length=hh-l:=by simp;omega
   cases ha with
   | jV=>
     simp only[Uq] at p c2
     rename_i b cap
     have u:hh=0:=by omega
     have lz:l=0:=by omega
     subst u;subst lz
     exact⟨_,key _ 0 cap 0 0 n q s p (bG _) (bW _),by simp;exact .jV⟩
   | lit J hs hb G B=>
     rename_i b o sz cap c
     refine⟨_,key _ es.length cap l hh n q s p c1 (by omega),?_⟩
     by_cases u:(es.take hh).drop l=[]
     · rw[u]
       have:hh-l=0:=by rw[←f,u];rfl
       rw[this];exact .jV
     · have W:l<hh:=by
         rcases jO l hh with k | k
         · exact k
         · exfalso;apply u;apply tY;rw[f];omega
       have d:n=sz:=by
         obtain⟨e,L⟩:=List.exists_mem_of_ne_nil _ u
         have F:e∈es:=vu (Jn L)
         rw[←hs e F,oR (c3 e F)]
       subst d
       rw[if_neg (by omega)]
       simp only[lP,Addr.n8]
       rw[show hh-l=((es.take hh).drop l).length from f.symm]
       refine .lit J (sz:=n) ?_ ?_ ?_ ?_
       · intro e L;exact hs e (vu (Jn L))
       · rw[f]
         have:l*n+(hh-l)*n≤es.length*n:=by rw[←gD];exact yp _ (by omega)
         omega
       · rw[f];omega
       · intro i j e aa y I f2 f3
         rw[qW,tW] at I
         split at I
         · refine B (l+i) j e aa y I f2 ?_
           rw[←f3];congr 1;rw[gD];omega
         · simp at I
 · rename_i n q
   split at h<;>simp only[bj,reduceCtorEq] at h
   rename_i s p
   subst h
   cases ha with | an=>?_
   exact⟨_,key none 0 0 0 0 n q s p (bG _) (bG _),by simp;exact .an⟩
 · rename_i n q
   split at h<;>simp only[bj,reduceCtorEq] at h
   rename_i s p
   subst h
   cases ha with | ft=>?_
   exact⟨_,key _ 0 0 0 0 n q s p (bG _) (bG _),by simp;exact .ft⟩
theorem Addr.Hl (a:Addr):a.add 0=a:=by
 grind[Addr.add]
def yS : AV→Nat→Option AV
 | .ai id off len,h=>match Nat.ble h len with
   | true=>some (.ai id off h)
   | false=>none
 | .lit es,h=>match Nat.ble h es.length with
   | true=>some (.lit (es.take h))
   | false=>none
 | .an,0=>some .an
 | .ft,0=>some .ft
 | _,_=>none
theorem Da (e:yS a h=some r)(l:VR g a x):∃ b n cap,x=.slice b n cap∧n≤cap∧h≤n∧VR g r (.slice b h cap):=by
 cases a with
 | ai id off len=>
   simp only[yS] at e
   cases d:Nat.ble h len with
   | false=>grind
   | true=>
     rw[d] at e;simp only[bj] at e
     have d:=gw d
     subst e
     cases l with
     | hM f p=>
       have:h=0:=by omega
       subst this
       exact⟨_,_,_,rfl,bG _,bG _,.hM f p⟩
     | ai f q hb=>exact⟨_,_,_,rfl,q,d,.ai f (by omega) hb⟩
 | lit es=>
   simp only[yS] at e
   cases d:Nat.ble h es.length with
   | false=>rw[d] at e;simp at e
   | true=>
     rw[d] at e;simp only[bj] at e
     have d:=gw d
     subst e
     cases l with
     | jV=>
       have:h=0:=by simpa using d
       subst this
       exact⟨_,_,_,rfl,bW _,bG _,by simpa using VR.jV⟩
     | lit s hs hb k hh=>
       rename_i b o sz cap c
       have f:(es.take h).length=h:=by simp;omega
       have key:=VR.lit (g:=g) (es:=es.take h) (cap:=cap) s (sz:=sz) (fun e u=>hs e (vu u)) (mF (Nat.add_le_add_left (yp _ (by omega)) _) hb) (by omega)
        (fun i j e a x m v y=>by
         rw[tW] at m
         split at m
         · exact hh i j e a x m v y
         · simp at m)
       rw[f] at key
       exact⟨_,_,_,rfl,k,d,key⟩
 | an=>
   cases h with
   | zero=>
     simp only[yS,bj] at e;subst e
     cases l with | an=>exact⟨_,_,_,rfl,bG _,bG _,.an⟩
   | succ h=>simp[yS] at e
 | ft=>
   cases h with
   | zero=>
     simp only[yS,bj] at e;subst e
     cases l with | ft=>exact⟨_,_,_,rfl,bG _,bG _,.ft⟩
   | succ h=>simp[yS] at e
 | _=>simp[yS] at e
def Jo (P:Program)(t:TypeId)(a hi mx:AV):Option AV:=
 match P.underlying t with
 | some (.slice el)=>match te P el,wc hi,wc mx with
   | some _,some h,some m=>match Nat.beq h m with
     | true=>match yS a h with
       | some r=>some (.clip r)
       | none=>none
     | false=>none
   | _,_,_=>none
 | _=>none
variable {mx : AV} {mxx : Value}
theorem J4 {hi:AV}{hx:Value}(h:Jo P t a hi mx=some r)(ha:VR g a x)(f:VR g hi hx)(i:VR g mx mxx) :
  ∃ z,(Instr.sliceAt t x none (some hx) (some mxx)).run P w=.ok z w∧VR g r z:=by
 unfold Jo at h
 split at h<;>try (simp at h;done)
 rename_i q hu
 split at h<;>try (simp at h;done)
 rename_i sz hh m d j k
 split at h<;>try (simp at h;done)
 rename_i l
 have c1:=oR l
 subst c1
 split at h<;>simp only[bj,reduceCtorEq] at h
 rename_i r o
 subst h
 obtain⟨b,n,cap,rfl,c,p,e⟩:=Da o ha
 obtain⟨k1,rfl⟩:=ia j f
 obtain⟨k2,rfl⟩:=ia k i
 refine⟨.slice b hh hh,?_,.clip e⟩
 simp only[Instr.sliceAt,Sem.run_bind,ah hu,Result.andThen_ok,Instr.slice,Instr.sliceBounds,Sem.run_pure,run_sliceBound (mF p c),run_sliceBound (bG hh),run_sizeOf d]
 cases b with
 | none=>simp
 | some b=>simp[Addr.Hl]
def Qd (P:Program)(t:TypeId)(a lo hi mx:AV):Option AV:=
 match P.underlying t with
 | some (.slice el)=>match te P el,wc lo,wc hi,wc mx with
   | some _,some l,some h,some m=>match Nat.ble l h&&Nat.ble h m,yS a m with
     | true,some _=>some .top
     | _,_=>none
   | _,_,_,_=>none
 | _=>none
theorem Mr {lo hi:AV}{lx hx:Value}(h:Qd P t a lo hi mx=some r)(ha:VR g a x)(f:VR g lo lx)(i:VR g hi hx)(j:VR g mx mxx) :
  ∃ z,(Instr.sliceAt t x (some lx) (some hx) (some mxx)).run P w=.ok z w∧VR g r z:=by
 unfold Qd at h
 split at h<;>try (simp at h;done)
 rename_i u hu
 split at h<;>try (simp at h;done)
 rename_i sz l hh m e k o p
 split at h<;>simp only[bj,reduceCtorEq] at h
 rename_i y d q
 simp only[aS] at d
 subst h
 obtain⟨b,n,cap,rfl,c,s,v⟩:=Da q ha
 obtain⟨A,rfl⟩:=ia k f
 obtain⟨k1,rfl⟩:=ia o i
 obtain⟨k2,rfl⟩:=ia p j
 refine⟨.slice (if m=l then b else b.map (·.add (l*sz))) (hh-l) (m-l),?_,.top⟩
 simp only[Instr.sliceAt,Sem.run_bind,ah hu,Result.andThen_ok,Instr.slice,Instr.sliceBounds,Sem.run_pure,run_sliceBound (mF s c),run_sliceBound (gw d.2),run_sliceBound (gw d.1),run_sizeOf e]
end
end Go.Eng
namespace Go.Eng
noncomputable section
def Th (v:Value):AV:=
 match Ld v with
 | true=>.sc v
 | false=>match v with
   | .slice none 0 0=>.an
   | .func f ⟨[]⟩ ⟨[]⟩=>.fn f [] []
   | _=>.top
def ajW (v:Value):AV:=
 match v with
 | .agg cs=>.agg (cs.toList.map Th)
 | .tuple a=>.bO (a.toList.map Th)
 | v=>Th v
theorem zA (g:Gh)(v:Value):VR g (Th v) v:=by
 unfold Th
 cases h:Ld v with
 | true=>exact .sc h
 | false=>
   dsimp only
   split
   · exact .an
   · exact .fn rfl rfl (fun k a x e=>by simp at e) (fun k a x e=>by simp at e)
   · exact .top
theorem uS (g:Gh)(v:Value):VR g (ajW v) v:=by
 unfold ajW
 split
 · rename_i cs
   refine .agg (by simp) fun k a x e b=>?_
   grind[zA]
 · rename_i cs
   refine .bO (by simp) fun k a x e b=>?_
   grind[zA]
 · exact zA g v
def iW (P:Program)(t:TypeId):Option AV:=
 match P.info? t with
 | some i=>match i.zero with
   | some z=>some (ajW z)
   | none=>none
 | none=>none
variable {P : Program} {w : World} {g : Gh} {t : TypeId}
theorem jF {a:AV}(h:iW P t=some a):∃ z,(zeroValue t).run P w=.ok z w∧VR g a z:=by
 unfold iW at h
 split at h<;>try (simp at h;done)
 rename_i i hi
 split at h<;>simp only[bj,reduceCtorEq] at h
 rename_i z b
 subst h
 exact⟨z,by simp[zeroValue,cV hi,b],uS g z⟩
theorem hJ.mP {g:Gh}{l ys:List AV}{xs c:Array Value}(h:hJ g l xs)(f:hJ g ys c){n:Nat}(i:n+ys.length≤l.length):hJ g (mP l n ys) (Eng.mP xs.toList n c.toList).toArray:=by
 have h1:=h.1
 have h2:=f.1
 refine⟨by simp[gz,h1],fun k a x e b=>?_⟩
 rw[sd,iE _ _ _ (by simp;omega)] at b
 rw[iE _ _ _ i] at e
 rw[show c.toList.length=ys.length from by simp[h2]] at b
 split at e
 · rename_i d;rw[if_pos d] at b;exact f.2 _ a x e (by simpa using b)
 · rename_i d;rw[if_neg d] at b;exact h.2 _ a x e (by simpa using b)
theorem Ix (off:Nat):∀(l:List Value) (k:Nat) (c:Array Value),off+k+l.length≤c.size →
   (l.zipIdx k).foldl (fun cs (x:Value×Nat)=>cs.setIfInBounds (off+x.2) x.1) c=(mP c.toList (off+k) l).toArray:=by
 intro l
 induction l with
 | nil=>intro k c _;simp[mP]
 | cons v l a=>
   intro k c b
   simp only[List.zipIdx_cons,List.foldl_cons]
   rw[a (k+1) _ (by grind)]
   congr 1
   apply zm
   intro i
   rw[iE _ _ _ (by grind),iE _ _ _ (by grind)]
   grind
def BZ (place:Nat→Option (Nat×Nat)):List AV→List (Nat×AV)→Option (List AV)
 | cs,[]=>some cs
 | cs,(i,v)::r=>match place i with
   | some (off,size)=>match Nat.beq v.cells.length size&&Nat.ble (off+v.cells.length) cs.length&&v.cells.all eD with
     | true=>BZ place (mP cs off v.cells) r
     | false=>none
   | none=>none
inductive xb (g : Gh) : List (Nat × AV) → List (Nat × Value) → Prop
 | nil : xb g [] []
 | cons {i : Nat} {v : AV} {x : Value} {ps : List (Nat × AV)} {xs : List (Nat × Value)} (hv : VR g v x) (ht : xb g ps xs) : xb g ((i, v) :: ps) ((i, x) :: xs)
variable {ps : List (Nat × AV)} {xs : List (Nat × Value)}
theorem A3 {place:Nat→Option (Nat×Nat)}(j:xb g ps xs):∀ {cs r:List AV} {c:Array Value},BZ place cs ps=some r→hJ g cs c →
   ∃ d,Instr.fill place c xs=some d∧hJ g r d:=by
 induction j with
 | nil=>intro cs r c h e;simp only[BZ,bj] at h;subst h;exact⟨c,rfl,e⟩
 | cons k p l=>
   rename_i i v y ps xs
   intro cs r c h e
   simp only[BZ] at h
   split at h<;>try (simp at h;done)
   rename_i off size f
   split at h<;>try (simp at h;done)
   rename_i a
   simp only[aS] at a
   have q:=oR a.1.1
   have q2:=gw a.1.2
   have b:=j7 k a.2
   have k1:=b.1
   have k2:=e.1
   obtain⟨d,m,o⟩:=l (c:=(Eng.mP c.toList off y.cells.toList).toArray) h (e.mP b q2)
   refine⟨d,?_,o⟩
   simp only[Instr.fill,f]
   rw[if_neg (by simp;omega)]
   rw[←m]
   congr 1
   have:=Ix off y.cells.toList 0 c (by simp;omega)
   rw[tZ] at this
   rw[←this,←Array.foldl_toList]
   simp
def akv (P:Program)(t:TypeId):Option (Nat→Option (Nat×Nat)):=
 match P.underlying t with
 | some (.struct fs)=>some fun i=>match nth fs.toList i with
   | some f=>match te P f.type with
     | some n=>some (f.offset,n)
     | none=>none
   | none=>none
 | some (.array _ el)=>match te P el with
   | some n=>some fun i=>some (i*n,n)
   | none=>none
 | _=>none
def Al (P:Program):List Field→Bool
 | []=>true
 | f::fs=>match te P f.type with
   | some _=>Al P fs
   | none=>false
def Eu (P:Program)(t:TypeId)(ps:List (Nat×AV)):Option AV:=
 match iW P t with
 | some z=>match P.underlying t with
   | some (.struct fs)=>match Al P fs.toList&&z.cells.all eD with
     | true=>match BZ (fun i=>match nth fs.toList i with
         | some f=>match te P f.type with
           | some n=>some (f.offset,n)
           | none=>none
         | none=>none) z.cells ps with
       | some cs=>some (.agg cs)
       | none=>none
     | false=>none
   | some (.array _ el)=>match te P el with
     | some n=>match z.cells.all eD with
       | true=>match BZ (fun i=>some (i*n,n)) z.cells ps with
         | some cs=>some (.agg cs)
         | none=>none
       | false=>none
     | none=>none
   | _=>none
 | none=>none
theorem Ms : ∀ {fs:List Field},Al P fs=true→(fs.mapM fun f=>do pure (f.offset,←sizeOf f.type):Sem (List (Nat×Nat))).run P w=.ok (fs.map fun f=>(f.offset,(te P f.type).getD 0)) w:=by
 intro fs
 induction fs with
 | nil=>intro _;simp
 | cons f fs b=>
   intro h
   simp only[Al] at h
   split at h<;>try (simp at h;done)
   rename_i n a
   simp only[List.mapM_cons,Sem.run_bind,run_sizeOf a,Result.andThen_ok,Sem.run_pure,b h,dF,a,vv]
variable {r : AV}
theorem Hm {xs:Array (Nat×Value)}(h:Eu P t ps=some r)(p:xb g ps xs.toList) :
   ∃ z,(Instr.build t xs).run P w=.ok z w∧VR g r z:=by
 unfold Eu at h
 split at h<;>try (simp at h;done)
 rename_i z q
 obtain⟨u,c,d⟩:=jF (P:=P) (w:=w) (g:=g) q
 split at h<;>try (simp at h;done)
 · rename_i fs hu
   split at h<;>try (simp at h;done)
   rename_i hb
   simp only[aS] at hb
   split at h<;>simp only[bj,reduceCtorEq] at h
   rename_i cs hf
   subst h
   have b:(fun i=>match nth fs.toList i with
       | some f=>match te P f.type with
         | some n=>some (f.offset,n)
         | none=>none
       | none=>none)=fun i=>((fs.map fun f=>(f.offset,(te P f.type).getD 0))[i]? : Option (Nat×Nat)):=by
    funext i
    rw[j4]
    simp only[zn,Array.getElem?_map]
    cases k:fs[i]? with
    | none=>rfl
    | some f=>
      simp only[lP]
      have hm:f∈fs.toList:=vj (by simpa using k:fs.toList[i]? = some f)
      have:∃ n,te P f.type=some n:=by
       have:=hb.1
       clear hf d c q hu k
       generalize fs.toList=l at this hm
       induction l with
       | nil=>simp at hm
       | cons a l s=>
         simp only[Al] at this
         split at this<;>try (simp at this;done)
         rename_i n e
         rcases dE.1 hm with rfl | hm
         · exact⟨n,e⟩
         · exact s this hm
      obtain⟨n,e⟩:=this
      simp[e]
   rw[b] at hf
   obtain⟨m,o,j⟩:=A3 p hf (j7 d hb.2)
   refine⟨.agg m,?_,.agg j.1 j.2⟩
   simp only[Instr.build,Sem.run_bind,c,Result.andThen_ok,ah hu]
   have hm:(fs.mapM fun f=>do pure (f.offset,←sizeOf f.type):Sem (Array (Nat×Nat))).run P w=.ok (fs.map fun f=>(f.offset,(te P f.type).getD 0)) w:=by
    rw[Array.mapM_eq_mapM_toList]
    simp only[Sem.run_map,Ms hb.1,Result.andThen_ok]
    congr 1
    apply Array.ext';simp
   rw[hm]
   simp only[Result.andThen_ok]
   rw[o]
   simp
 · rename_i len el hu
   split at h<;>try (simp at h;done)
   rename_i n e
   split at h<;>try (simp at h;done)
   rename_i hb
   split at h<;>simp only[bj,reduceCtorEq] at h
   rename_i cs hf
   subst h
   obtain⟨m,o,j⟩:=A3 p hf (j7 d hb)
   refine⟨.agg m,?_,.agg j.1 j.2⟩
   simp only[Instr.build,Sem.run_bind,c,Result.andThen_ok,ah hu,run_sizeOf e]
   rw[o]
   simp
def Ig (S:ag)(v:AV):Option (AV×ag):=
 match v.cells.all eD&&Nat.ble (S.nx+1) 8192&&Nat.ble S.lim S.nx with
 | true=>some (.ptr S.nx 0 0,S.add (.arr v.cells.length [v]))
 | false=>none
variable {S S' : ag} {x : Value}
theorem Db (hi:Inv S g w){v:AV}(h:Ig S v=some (r,S'))(f:VR g v x) :
   ∃ a w' g', (newVar t x).run P w=.ok a w' ∧ VR g' r (.pointer (some a))∧Inv S' g' w' ∧ Ext S g w S' g' w' := by
 unfold Ig at h
 split at h<;>simp only[bj,nj,reduceCtorEq] at h
 rename_i c
 obtain⟨rfl,rfl⟩:=h
 simp only[aS] at c
 have c2:=gw c.1.2
 have c3:=gw c.2
 have b:=j7 f c.1.1
 obtain ⟨k,q2⟩:=hi.alloc (w' := w.alloc (.cells x.cells t)) (by omega) (o:=.arr v.cells.length [v]) (ob:=.cells x.cells t) (l:=⟨w.heap.size,0,v.cells.length,x.cells.size⟩) rfl
   ⟨x.cells,t,rfl,rfl,rfl,by simp[b.1],by simp,by
    intro i j e a y d m p
    cases i with
    | zero=>
      simp only[vw,bj] at d
      subst d
      exact b.2 j a y m (by simpa using p)
    | succ i=>simp at d⟩ rfl rfl ⟨rfl,bG _⟩ rfl c3
 refine⟨⟨w.heap.size,0,none⟩,_,_,?_,?_,k,q2⟩
 · simp[newVar,newRow]
 · have:=VR.ptr (g:=g.add S.nx ⟨w.heap.size,0,v.cells.length,x.cells.size⟩) (id:=S.nx) (i:=0) (j:=0) (Gh.add_same _ _ _)
   simpa using this
def Ti : List AV→List (Nat×AV)→Option (List AV)
 | es,[]=>some es
 | es,(i,v)::r=>match nth es i with
   | some e=>match Nat.beq v.cells.length e.cells.length&&v.cells.all eD with
     | true=>Ti (es.set i v) r
     | false=>none
   | none=>none
def qD (g:Gh)(sz:Nat)(es:List AV)(c:Array Value):Prop:=
 es.length*sz≤c.size∧(∀ e,e∈es→e.cells.length=sz)∧∀(i j:Nat) (e a:AV) (y:Value),es[i]? = some e→e.cells[j]? = some a→c[i*sz+j]? = some y→VR g a y
theorem OU {sz:Nat}(I:xb g ps xs):∀ {es r:List AV} {c:Array Value},Ti es ps=some r→qD g sz es c →
   ∃ p,Instr.fill (fun i=>some (i*sz,sz)) c xs=some p∧qD g sz r p∧p.size=c.size∧r.length=es.length:=by
 induction I with
 | nil=>intro es r c h C;simp only[Ti,bj] at h;subst h;exact⟨c,rfl,C,rfl,rfl⟩
 | cons J O K=>
   rename_i i v y ps xs
   intro es r c h C
   simp only[Ti] at h
   split at h<;>try (simp at h;done)
   rename_i e F
   rw[j4] at F
   split at h<;>try (simp at h;done)
   rename_i hb
   simp only[aS] at hb
   have Q:=oR hb.1
   obtain⟨k1,k2,k3⟩:=C
   have d:=j7 J hb.2
   have f:v.cells.length=sz:=by grind
   have s:i<es.length:=(mC.1 F).1
   have G:i*sz+sz≤es.length*sz:=by
     have:(i+1)*sz≤es.length*sz:=yp _ s
     rw[nY] at this;exact this
   have k:y.cells.toList.length=sz:=by rw[←f,d.1];simp
   have u:qD g sz (es.set i v) (Eng.mP c.toList (i*sz) y.cells.toList).toArray:=by
     refine⟨by simp[gz];exact k1,?_,?_⟩
     · intro L D
       rcases List.mem_or_eq_of_mem_set D with hm | hm
       · exact k2 L hm
       · subst hm;exact f
     · intro o j A a z b B q
       rw[sd,iE _ _ _ (by rw[k];simp;omega),k] at q
       rw[List.getElem?_set] at b
       by_cases l:i=o
       · subst l
         rw[if_pos rfl,if_pos s] at b
         simp only[bj] at b
         subst b
         have M:j<sz:=by rw[←f];exact(mC.1 B).1
         rw[if_pos (by omega),show i*sz+j-i*sz=j from by omega] at q
         exact d.2 j a z B (by simpa using q)
       · rw[if_neg l] at b
         have M:j<sz:=by rw[←k2 A (vj b)];exact(mC.1 B).1
         have E:¬ (i*sz≤o*sz+j∧o*sz+j<i*sz+sz):=by
          rintro⟨c1,c2⟩
          rcases Nat.lt_or_gt_of_ne l with m | m
          · have:(i+1)*sz≤o*sz:=yp _ m
            rw[nY] at this;omega
          · have:(o+1)*sz≤i*sz:=yp _ m
            rw[nY] at this;omega
         rw[if_neg E] at q
         exact k3 o j A a z b B (by simpa using q)
   obtain⟨p,N,A,R,T⟩:=K (c:=(Eng.mP c.toList (i*sz) y.cells.toList).toArray) h u
   refine⟨p,?_,A,?_,?_⟩
   · simp only[Instr.fill]
     have H:=d.1
     rw[if_neg (by simp;omega)]
     rw[←N]
     congr 1
     have:=Ix (i*sz) y.cells.toList 0 c (by simp;simp at k;omega)
     rw[tZ] at this
     rw[←this,←Array.foldl_toList]
     simp
   all_goals grind[gz]
theorem qD.alloc {S:ag}{g:Gh}{w:World}(hi:Inv S g w){sz:Nat}{es:List AV}{c:Array Value}(h:qD g sz es c)(t:TypeId)(b:Ok S.nx)(d:S.lim≤S.nx) :
  Inv (S.add (.arr sz es)) (g.add S.nx ⟨w.heap.size,0,sz,c.size⟩) (w.alloc (.cells c t))∧Ext S g w (S.add (.arr sz es)) (g.add S.nx ⟨w.heap.size,0,sz,c.size⟩) (w.alloc (.cells c t)):=
 hi.alloc (w' := w.alloc (.cells c t)) b (o:=.arr sz es) (ob:=.cells c t) (l:=⟨w.heap.size,0,sz,c.size⟩) rfl
  ⟨c,t,rfl,rfl,rfl,by simpa using h.1,h.2.1,fun i j e a y f k m=>h.2.2 i j e a y f k (by simpa using m)⟩ rfl rfl ⟨rfl,bG _⟩ rfl d
variable {n : Nat}
theorem AD {z:AV}{b:Array Value}{m:Nat}(f:hJ g z.cells b)(k:n≤m):qD g b.size (List.replicate n z) ((Array.range (m*b.size)).map fun i=>b[i%b.size]!):=by
 refine⟨by simp;exact yp _ k,?_,?_⟩
 · intro e l;rw[(List.mem_replicate.1 l).2,f.1]
 · intro i j e a y c o d
   rw[List.getElem?_replicate] at c
   split at c<;>simp only[bj,reduceCtorEq] at c
   rename_i hi
   subst c
   have p:j<b.size:=by rw[←f.1];grind
   simp only[Array.getElem?_map] at d
   have h:i*b.size+j<m*b.size:=by
    grind
   rw[Array.getElem?_range,if_pos h] at d
   simp only[lP,bj] at d
   have q:(i*b.size+j)%b.size=j:=by
    rw[Nat.mul_comm,Nat.mul_add_mod];exact Nat.mod_eq_of_lt p
   rw[q] at d
   refine f.2 j a y o ?_
   grind
def gG (S:ag)(sz:Nat)(es:List AV):Option (AV×ag):=
 match Nat.ble (S.nx+1) 8192&&Nat.ble S.lim S.nx with
 | true=>some (.ai S.nx 0 es.length,S.add (.arr sz es))
 | false=>none
def og (P:Program)(S:ag)(t:TypeId)(len:Nat)(ps:List (Nat×AV)):Option (AV×ag):=
 match P.underlying t with
 | some (.slice el)=>match te P el with
   | some (n+1)=>match Nat.ble (len*(n+1)) (2 ^ 24) with
     | true=>match iW P el with
       | some z=>match Nat.beq z.cells.length (n+1)&&z.cells.all eD with
         | true=>match Ti (List.replicate len z) ps with
           | some es=>gG S (n+1) es
           | none=>none
         | false=>none
       | none=>none
     | false=>none
   | _=>none
 | _=>none
theorem zM (hi:Inv S g w){len:Nat}{xs:Array (Nat×Value)}(h:og P S t len ps=some (r,S'))(y:xb g ps xs.toList) :
   ∃ z w' g', (Instr.buildSlice t len xs).run P w=.ok z w' ∧ VR g' r z∧Inv S' g' w' ∧ Ext S g w S' g' w' := by
 unfold og at h
 split at h<;>try (simp at h;done)
 rename_i el hu
 split at h<;>try (simp at h;done)
 rename_i n p
 simp only[Nat.succ_eq_add_one] at p h
 split at h<;>try (simp at h;done)
 rename_i b
 have b:=gw b
 split at h<;>try (simp at h;done)
 rename_i z A
 split at h<;>try (simp at h;done)
 rename_i hb
 simp only[aS] at hb
 have j:=oR hb.1
 split at h<;>try (simp at h;done)
 rename_i es B
 unfold gG at h
 split at h<;>simp only[bj,nj,reduceCtorEq] at h
 rename_i f
 obtain⟨rfl,rfl⟩:=h
 simp only[aS] at f
 have c2:=gw f.1
 have c3:=gw f.2
 obtain⟨q,k,l⟩:=jF (P:=P) (w:=w) (g:=g) A
 have c:=j7 l hb.2
 have d:q.cells.size=n+1:=by rw[←c.1,j]
 have s:=AD (n:=len) (m:=len) c (bG _)
 rw[d] at s
 obtain⟨u,v,C,D,E⟩:=OU y B s
 obtain⟨F,q2⟩:=C.alloc hi el (by omega) c3
 have o:u.size=len*(n+1):=by rw[D];simp
 have e:es.length=len:=by rw[E];simp
 refine⟨.slice (some ⟨w.heap.size,0,none⟩) len len,_,_,?_,?_,F,q2⟩
 · simp only[Instr.buildSlice,Sem.run_bind,ah hu,Result.andThen_ok,run_sizeOf p]
   rw[if_neg (by omega)]
   by_cases a:len*(n+1)=0
   · rw[if_pos a]
     simp only[Sem.run_bind,Sem.run_pure,Result.andThen_ok]
     have:((Array.range (len*(n+1))).map fun i=>(#[]:Array Value)[i%(#[]:Array Value).size]!)=(Array.range (len*(n+1))).map fun i=>q.cells[i%(n+1)]! := by
      rw[a];apply Array.ext';simp
     rw[this,v]
     simp[newRow]
   · rw[if_neg a]
     simp only[Sem.run_bind,k,Result.andThen_ok,Sem.run_pure,d]
     rw[v]
     simp[newRow]
 · have:=VR.ai (g:=g.add S.nx ⟨w.heap.size,0,n+1,u.size⟩) (id:=S.nx) (off:=0) (len:=es.length) (cap:=len) (Gh.add_same _ _ _) (by omega) (by simp;omega)
   rw[e] at this ⊢
   simpa using this
def nK (P:Program)(S:ag)(t:TypeId)(len cap:AV):Option (AV×ag):=
 match wc len,wc cap,P.underlying t with
 | some l,some c,some (.slice el)=>match P.info? el,iW P el with
   | some i,some z=>match Nat.ble l c&&Nat.ble (c*(i.bytes+1)) (2 ^ 40)&&Nat.beq z.cells.length i.size&&Nat.ble 1 i.size&&z.cells.all eD with
     | true=>gG S i.size (List.replicate l z)
     | false=>none
   | _,_=>none
 | _,_,_=>none
theorem wrap64_in {n:Int}(h : -9223372036854775808≤n∧n≤9223372036854775807):IntKind.i64.wrap n=n:=by rw[IntKind.wrap_i64];omega
theorem zB (h:n<2 ^ 62):IntKind.i64.wrap (n:Int)=n:=wrap64_in (by omega)
theorem Bp (hi:Inv S g w){len cap:AV}{y:Value}(h:nK P S t len cap=some (r,S'))(hx:VR g len x)(hy:VR g cap y) :
   ∃ z w' g', (Instr.makeSlice t x y).run P w=.ok z w' ∧ VR g' r z∧Inv S' g' w' ∧ Ext S g w S' g' w' := by
 unfold nK at h
 split at h<;>try (simp at h;done)
 rename_i l c el E f hu
 obtain⟨k1,rfl⟩:=ia E hx
 obtain⟨k2,rfl⟩:=ia f hy
 split at h<;>try (simp at h;done)
 rename_i i z a F
 split at h<;>try (simp at h;done)
 rename_i hb
 simp only[aS] at hb
 obtain⟨⟨⟨⟨j,o⟩,p⟩,B⟩,G⟩:=hb
 have j:=gw j
 have o:=gw o
 have p:=oR p
 have B:=gw B
 unfold gG at h
 split at h<;>simp only[bj,nj,reduceCtorEq] at h
 rename_i q
 obtain⟨rfl,rfl⟩:=h
 simp only[aS] at q
 have c2:=gw q.1
 have c3:=gw q.2
 obtain⟨C,s,u⟩:=jF (P:=P) (w:=w) (g:=g) F
 have d:=j7 u G
 have e:C.cells.size=i.size:=by rw[←d.1,p]
 have D:=AD (n:=l) (m:=c) d j
 rw[e] at D
 obtain⟨H,q2⟩:=D.alloc hi el (by omega) c3
 have J:c*i.bytes≤2 ^ 40:=mF (Nat.mul_le_mul_left c (xd _)) o
 have K:c≤2 ^ 40:=mF (Nat.le_mul_of_pos_right c (Nat.succ_pos _)) o
 have w1:IntKind.i64.wrap (Int.ofNat l)=l:=zB (by omega)
 have I:IntKind.i64.wrap (Int.ofNat c)=c:=zB (by omega)
 have v:te P el=some i.size:=by simp[te,a]
 refine⟨.slice (some ⟨w.heap.size,0,none⟩) l c,_,_,?_,?_,H,q2⟩
 · simp only[Instr.makeSlice,Sem.run_bind,ah hu,Result.andThen_ok,asInt,asIntOf,Sem.run_pure,cV a,w1,I]
   have A:¬ ((decide ((c:Int)<0)||decide ((i.bytes:Int)*(c:Int)>2 ^ 48))||decide ((l:Int)<0)||decide ((l:Int)>(c:Int)))=true:=by
     simp only[xe,decide_eq_true_eq,not_or]
     refine⟨⟨⟨by omega,?_⟩,by omega⟩,by omega⟩
     have:((i.bytes:Int)*(c:Int))=((c*i.bytes:Nat):Int):=by rw[Int.natCast_mul,Int.mul_comm]
     rw[this];omega
   rw[if_neg A]
   simp only[Sem.run_bind,run_askRoom,Result.andThen_ok,run_sizeOf v,ub]
   by_cases b:c*i.size=0
   · rw[if_pos b]
     simp only[Sem.run_bind,Sem.run_pure,Result.andThen_ok]
     have:((Array.range (c*i.size)).map fun k=>(#[]:Array Value)[k%(#[]:Array Value).size]!)=(Array.range (c*i.size)).map fun k=>C.cells[k%i.size]! := by
      rw[b];apply Array.ext';simp
     rw[this]
     simp[newRow]
   · rw[if_neg b]
     simp only[Sem.run_bind,s,Result.andThen_ok,Sem.run_pure,e]
     simp[newRow]
 · have:=VR.ai (g:=g.add S.nx ⟨w.heap.size,0,i.size,c*i.size⟩) (id:=S.nx) (off:=0) (len:=l) (cap:=c) (Gh.add_same _ _ _) j (by simp)
   simpa using this
end
end Go.Eng
namespace Go.Eng
noncomputable section
def se (S:ag):AV→Option (List AV)
 | .lit es=>some es
 | .ai id off len=>match S.get id with
   | some (.arr _ es)=>match Nat.ble (off+len) es.length with
     | true=>some ((es.drop off).take len)
     | false=>none
   | _=>none
 | .an=>some []
 | .ft=>some []
 | _=>none
def iT (S:ag):AV→Option (List AV)
 | .clip v=>se S v
 | v=>se S v
def sized (n:Nat)(es:List AV):Bool:=es.all fun e=>Nat.beq e.cells.length n&&e.cells.all eD
variable {n : Nat} {es : List AV}
theorem j8 (h:sized n es=true){e:AV}(a:e∈es):e.cells.length=n∧e.cells.all eD=true:=by
 have:=dg.1 h e a
 simp_all
variable {P : Program} {S : ag} {g : Gh} {w : World} {x : AV} {y : Value}
theorem FP (hi:Inv S g w)(h:se S x=some es)(F:VR g x y)(hs:sized n es=true) :
   ∃ a cap cs,y=.slice a es.length cap∧es.length≤cap∧(∀ w', w'.heap=w.heap→(Builtin.firstCells n es.length y).run P w' = .ok cs w')∧qD g n es cs∧cs.size=es.length*n:=by
 have f:∀(a:Option Addr) (cap:Nat) (w' : World),w'.heap=w.heap→(Builtin.firstCells n 0 (.slice a 0 cap)).run P w' = .ok #[] w' := by
   intro a cap w' _
   cases a with
   | none=>simp[Builtin.firstCells]
   | some a=>simp[Builtin.firstCells,loadCells,loadCellsFrom]
 have D:qD g n [] #[]:=⟨by simp,by simp,by simp⟩
 unfold se at h
 split at h<;>try (simp at h;done)
 · simp only[bj] at h;subst h
   cases F with
   | jV=>exact⟨_,_,#[],rfl,bW _,f _ _,D,by simp⟩
   | lit N E hb m hh=>
     rename_i es b o sz cap c
     by_cases G:es=[]
     · subst G;exact⟨_,cap,#[],rfl,bW _,f _ _,D,by simp⟩
     · have v:n=sz:=by
         obtain⟨e,q⟩:=List.exists_mem_of_ne_nil _ G
         rw[←E e q,(j8 hs q).1]
       subst v
       obtain⟨t,fz,O⟩:=hi.ro _ _ N
       refine⟨_,cap,c.extract o (o+es.length*n),rfl,m,?_,⟨by simp;omega,E,?_⟩,by simp;omega⟩
       · intro w' A
         simp only[Builtin.firstCells]
         rw[run_loadCells (by rw[A];exact O) hb]
       · intro i j e a z u H p
         rw[Fk] at p
         split at p
         · exact hh i j e a z u H (by rw[←p];congr 1;omega)
         · simp at p
 · rename_i id off len
   split at h<;>try (simp at h;done)
   rename_i sz B Q
   split at h<;>simp only[bj,reduceCtorEq] at h
   rename_i C
   have C:=gw C
   subst h
   have k:((B.drop off).take len).length=len:=by simp;omega
   cases F with
   | hM=>simp only[List.take_zero] at *;exact⟨_,_,#[],rfl,bG _,f _ _,D,by simp⟩
   | ai R m hb=>
     rename_i cap l
     obtain⟨l', I,q2,q3⟩:=hi.ob _ _ Q
     rw[R] at I;simp only[bj] at I;subst I
     obtain⟨c,V,T,W,L,X,M,U⟩:=q3
     rw[k]
     by_cases G:len=0
     · subst G;simp only[List.take_zero] at *;exact⟨_,cap,#[],rfl,bW _,f _ _,D,by simp⟩
     · have v:n=sz:=by
         have J:(B.drop off).take len≠[]:=by intro e;rw[e] at k;simp at k;omega
         obtain⟨e,q⟩:=List.exists_mem_of_ne_nil _ J
         rw[←M e (Jn (vu q)),(j8 hs q).1]
       subst v
       have K:l.base+off*l.sz+len*n≤c.size:=by
         rw[L]
         have:(off+len)*n≤B.length*n:=yp _ C
         rw[gD] at this;omega
       refine⟨_,cap,c.extract (l.base+off*l.sz) (l.base+off*l.sz+len*n),rfl,m,?_,⟨by rw[k];simp;omega,?_,?_⟩,by simp;omega⟩
       · intro w' A
         simp only[Builtin.firstCells]
         rw[run_loadCells (by rw[A];exact T) K]
       · intro e q;exact M e (Jn (vu q))
       · intro i j e a z u H p
         rw[tW] at u
         split at u
         · rw[qW] at u
           rw[Fk] at p
           split at p
           · refine U (off+i) j e a z u H ?_
             rw[←p];congr 1;rw[L,gD];omega
           · simp at p
         · simp at u
 · simp only[bj] at h;subst h
   cases F with | an=>exact⟨_,_,#[],rfl,bG _,f _ _,D,by simp⟩
 · simp only[bj] at h;subst h
   cases F with | ft=>exact⟨_,_,#[],rfl,bG _,f _ _,D,by simp⟩
theorem rQ (hi:Inv S g w)(h:iT S x=some es)(b:VR g x y)(hs:sized n es=true) :
   ∃ a cap cs,y=.slice a es.length cap∧es.length≤cap∧(∀ w', w'.heap=w.heap→(Builtin.firstCells n es.length y).run P w' = .ok cs w')∧qD g n es cs∧cs.size=es.length*n:=by
 unfold iT at h
 split at h
 · cases b with | clip b=>?_
   obtain⟨a,cap,cs,e,e2,f,j,k⟩:=FP (P:=P) hi h b hs
   simp only[Value.slice.injEq] at e
   obtain⟨rfl,rfl,rfl⟩:=e
   refine⟨_,_,cs,rfl,bG _,fun w' l=>?_,j,k⟩
   have:=f w' l
   rename_i a0 c0
   cases a0<;>exact this
 · exact FP hi h b hs
variable {c d : Array Value}
theorem qD.append {fs:List AV}(h:qD g n es c)(l:qD g n fs d)(m:c.size=es.length*n):qD g n (es++fs) (c++d):=by
 obtain⟨q,a2,a3⟩:=h
 obtain⟨u,v,o⟩:=l
 refine⟨?_,?_,?_⟩
 · simp only[sg,Array.size_append,gD];omega
 · grind
 · intro i j e a y b k f
   by_cases hi:i<es.length
   · rw[BX hi] at b
     have A:j<n:=by rw[←a2 e (vj b)];exact(mC.1 k).1
     have:i*n+n≤es.length*n:=by
      have:(i+1)*n≤es.length*n:=yp _ hi
      rw[nY] at this;exact this
     rw[Oc (by omega)] at f
     exact a3 i j e a y b k f
   · rw[zj (by omega)] at b
     have p:es.length*n≤i*n:=yp _ (by omega)
     rw[Array.getElem?_append_right (by omega)] at f
     refine o _ j e a y b k ?_
     rw[←f];congr 1;rw[Nat.sub_mul,m];omega
theorem qD.more (h:qD g n es c)(d:Array Value)(a:c.size=es.length*n):qD g n es (c++d):=by
 have:=h.append (fs:=[]) (d:=d) ⟨by simp,by simp,by simp⟩ a
 simpa using this
theorem qD.mono {g g' : Gh}(b:Gh.le g g'){n:Nat}{es:List AV}{c:Array Value}(h:qD g n es c):qD g' n es c:=⟨h.1,h.2.1,fun i j e a y f k l=>(h.2.2 i j e a y f k l).mono b⟩
theorem RH (a B:Nat)(b:a+(a+768)/4≤B):∀(r c:Nat),c≤B→Builtin.growBy a r c≤B:=by
 intro r
 induction r<;>grind[Builtin.growBy]
theorem nextslicecap_le (a vZ:Nat)(h:vZ<a):Builtin.nextslicecap a vZ≤2*a+768:=by
 unfold Builtin.nextslicecap
 split
 · omega
 · split
   · omega
   · exact RH a _ (by omega) 4 vZ (by omega)
variable {w' : World}
theorem Inv.world (h:Inv S g w)(hh:w'.heap=w.heap):Inv S g w' :=
 ⟨fun b c e=>by rw[hh];exact h.ro b c e,fun id o e=>by grind[Inv.ob],h.inj,h.fresh⟩
theorem Ext.world (hh:w'.heap=w.heap)(f:w'.os=w.os)(j:La w' w)(hu:w'.output=w.output):Ext S g w S g w' :=
 ⟨by grind,f,j,hu,fun b _ _=>by rw[hh],fun id o l h h1 h2 _=>⟨id,o,l,h,h1,h2,rfl⟩,Gh.le_refl _,bG _,rfl,fun _ _=>rfl,fun _ _=>rfl,fun _ _ e _=>.inl e,fun _ _ e=>e,fun a _=>by unfold World.frozen?;rw[hh]⟩
variable {sz : Nat}
theorem FQ (hi:Inv S g w){id off:Nat}{xs:List AV}{l:Loc}{cc:Array Value}(I:S.get id=some (.arr sz es))(N:S.lim≤id)(J:g.ph id=some l)(hb:sized sz xs=true)(K:qD g sz xs cc)(E:cc.size=xs.length*sz)(O:off+xs.length≤es.length) :
   ∃ w', (storeCells ⟨l.cZ,l.base+off*sz,none⟩ cc.toList).run P w=.ok () w' ∧ Inv (S.set id (.arr sz (mP es off xs))) g w' ∧ Ext S g w (S.set id (.arr sz (mP es off xs))) g w' := by
 obtain⟨l', D,q2,q3⟩:=hi.ob _ _ I
 rw[J] at D;simp only[bj] at D;subst D
 obtain⟨c,L,Q,R,T,U,M,V⟩:=q3
 have u:cc.toList.length=xs.length*sz:=by grind
 have m:l.base+off*sz+cc.toList.length≤c.size:=by
   rw[u]
   have:(off+xs.length)*sz≤es.length*sz:=yp _ O
   grind
 have B:∀ y,y∈cc.toList→y.oneCell' = true:=by
   intro y hy
   obtain⟨k,p⟩:=hU hy
   have v:cc[k]? = some y:=by simpa using p
   have h:k<xs.length*sz:=by rw[←E];exact(BG.1 v).1
   have F:0<sz:=by
     rcases Nat.eq_zero_or_pos sz with e | e
     · rw[e] at h;simp at h
     · exact e
   have h1:k/sz<xs.length:=Nat.div_lt_of_lt_mul (by rw[Nat.mul_comm];exact h)
   have h2:k%sz<sz:=Nat.mod_lt _ F
   obtain⟨s1,s2⟩:=j8 hb (cM h1)
   have h3:k%sz<xs[k/sz].cells.length:=by rw[s1];exact h2
   refine ry (dg.1 s2 _ (cM h3)) (K.2.2 _ _ _ _ y (qB h1) (qB h3) ?_)
   rw[←v];congr 1;rw[Nat.mul_comm];exact Nat.div_add_mod k sz
 obtain⟨w', W,X,Y,Z,r5,r6,r7⟩:=ot (P:=P) (b:=l.cZ) (o:=l.base+off*sz) (t:=L) cc.toList w c 0 Q (by omega) B
 refine⟨w', by simpa using W,?_⟩
 refine hi.jr I N J Z X Y r5 r6 r7 ⟨_,L,rfl,by simp[gz,R],T,by simp[gz];exact U,?_,?_⟩
 · intro e he
   obtain⟨k,p⟩:=hU he
   rw[iE _ _ _ (by omega)] at p
   split at p
   · exact(j8 hb (vj p)).1
   · exact M e (vj p)
 · intro i j e a y f C q
   rw[iE _ _ _ (by omega)] at f
   rw[sd,iE _ _ _ (by simp at m ⊢;omega),u] at q
   simp only[tZ] at q
   by_cases A:off≤i∧i<off+xs.length
   · rw[if_pos A] at f
     have hj:j<sz:=by rw[←(j8 hb (vj f)).1];exact(mC.1 C).1
     have hm:(i-off)*sz+sz≤xs.length*sz:=by
      have:(i-off+1)*sz≤xs.length*sz:=yp _ (by omega)
      rw[nY] at this;exact this
     have hio:i*sz=off*sz+(i-off)*sz:=by rw[←gD];congr 1;omega
     rw[if_pos (by omega)] at q
     refine K.2.2 _ j e a y f C ?_
     rw[←zn,←q];congr 1;omega
   · rw[if_neg A] at f
     have hj:j<sz:=by rw[←M e (vj f)];exact(mC.1 C).1
     have G:¬ (l.base+off*sz≤l.base+i*sz+j∧l.base+i*sz+j<l.base+off*sz+xs.length*sz):=by
      rintro⟨c1,c2⟩
      rcases jO i off with H | hge
      · have:(i+1)*sz≤off*sz:=yp _ H
        rw[nY] at this;omega
      · have:(off+xs.length)*sz≤i*sz:=yp _ (by omega)
        rw[gD] at this;omega
     rw[if_neg G] at q
     exact V i j e a y f C (by simpa using q)
def B0 (S:ag)(id off len sz:Nat)(xs:List AV):Option ag:=
 match S.get id with
 | some (.arr a es)=>match Nat.beq a sz&&Nat.ble S.lim id&&Nat.ble (off+len+xs.length) es.length with
   | true=>some (S.set id (.arr a (mP es (off+len) xs)))
   | false=>none
 | _=>none
def qG (P:Program)(S:ag)(ts:List TypeId)(s x:AV):Option (AV×ag):=
 match ts with
 | st::xt::_=>match P.underlying st,P.underlying xt with
   | some (.slice el),some (.slice _)=>match P.info? el,iW P el,iT S x with
     | some i,some z,some xs=>match sized i.size xs&&Nat.ble 1 i.size&&Nat.ble i.bytes 4096&&Nat.beq z.cells.length i.size&&z.cells.all eD with
       | true=>match xs with
         | []=>match iT S s with
           | some es=>match sized i.size es with
             | true=>some (s,S)
             | false=>none
           | none=>none
         | _::_=>match s with
           | .an=>match Nat.ble xs.length 1048576 with
             | true=>gG S i.size xs
             | false=>none
           | .ft=>match Nat.ble xs.length 1048576 with
             | true=>gG S i.size xs
             | false=>none
           | .ai id off len=>match B0 S id off len i.size xs with
             | some S' => some (.ai id off (len+xs.length),S')
             | none=>match S.get id,iT S s with
               | some (.arr sz _),some es=>match Nat.ble (es.length+xs.length) 1048576&&sized i.size es&&Nat.ble S.lim id&&Nat.beq sz i.size with
                 | true=>gG (S.del id) i.size (es++xs)
                 | false=>none
               | _,_=>none
           | .clip _=>match iT S s with
             | some es=>match Nat.ble (es.length+xs.length) 1048576&&sized i.size es with
               | true=>gG S i.size (es++xs)
               | false=>none
             | none=>none
           | _=>none
       | false=>none
     | _,_,_=>none
   | _,_=>none
 | _=>none
variable {st xt el e2 : TypeId} {i : TypeInfo} {z : Value} {ts : List TypeId} {sLen sCap : Nat} {new : Array Value} {t : TypeId}
theorem run_append_grow {base:Option Addr}{x:Value}{vZ:Array Value}(hs:P.underlying st=some (.slice el))(h:P.underlying xt=some (.slice e2))(hi:P.info? el=some i)(o:i.zero=some z)(hb:i.bytes≤4096)(m:sLen+n≤2097152)(b:sCap<sLen+n)(e:(Builtin.lenOf x).run P w=.ok n w)(p:∀ w', w'.heap=w.heap→(Builtin.firstCells i.size sLen (.slice base sLen sCap)).run P w' = .ok vZ w')(q:∀ w', w'.heap=w.heap→(Builtin.firstCells i.size n x).run P w' = .ok new w') :
  ∃ w' cap,(Builtin.append_ (st::xt::ts).toArray t #[.slice base sLen sCap,x]).run P w=.ok (.slice (some ⟨w.heap.size,0,none⟩) (sLen+n) cap) w' ∧ sLen+n≤cap ∧
   w'.heap=w.heap.push (.cells (vZ++new++Builtin.zeroCells z.cells (cap-(sLen+n))) el)∧w'.os=w.os∧La w' w∧w'.output=w.output:=by
 have j:te P el=some i.size:=by simp[te,hi]
 have f:¬ (((sLen+n:Nat):Int)>IntKind.i64.max∧(False∨i.bytes=0)):=by
  have:IntKind.i64.max=9223372036854775807:=by decide
  omega
 have a:¬ (Builtin.nextslicecap (sLen+n) sCap*i.bytes>2 ^ 48):=by
  have h1:=nextslicecap_le (sLen+n) sCap b
  have h2:Builtin.nextslicecap (sLen+n) sCap*i.bytes≤(2*2097152+768)*4096:=Nat.mul_le_mul (by omega) hb
  omega
 refine ⟨(w.drew).alloc (.cells (vZ++new++Builtin.zeroCells z.cells (Question.cut (.appendCap (sLen+n) sCap el) (w.tape w.drawn (.appendCap (sLen+n) sCap el))-(sLen+n))) el),
  Question.cut (.appendCap (sLen+n) sCap el) (w.tape w.drawn (.appendCap (sLen+n) sCap el)),?_,Nat.le_add_right _ _,rfl,rfl,⟨rfl,xd _⟩,rfl⟩
 have k:=p w.drew rfl
 have l:=q w.drew rfl
 have hzero:(zeroValue el).run P w.drew=.ok z w.drew:=by simp[zeroValue,cV hi,o]
 simp only[Builtin.append_,Sem.run_bind,sd,vw,zl,ah hs,ah h,Result.andThen_ok,run_sizeOf j,Sem.run_pure,
  dK,if_false,e]
 rw[if_neg (by omega)]
 simp only[Sem.run_bind,cV hi,Result.andThen_ok]
 rw[if_neg f]
 simp only[Sem.run_bind,cV hi,Result.andThen_ok]
 rw[if_neg a]
 simp only[Sem.run_bind,run_choose,Question.forced,dK,if_false,Result.andThen_ok,cV hi,run_askRoom,World.drew_eq,k,l,Bool.not_false,if_true,hzero,newRow,run_newObj,Sem.run_pure]
 rfl
theorem run_append_fits {a:Addr}{x:Value}(hs:P.underlying st=some (.slice el))(e:P.underlying xt=some (.slice e2))(hi:P.info? el=some i)(h:sLen+n≤sCap)(b:(Builtin.lenOf x).run P w=.ok n w)(k:(Builtin.firstCells i.size n x).run P w=.ok new w)(j:(storeCells (a.add (sLen*i.size)) new.toList).run P w=.ok () w') :
  (Builtin.append_ (st::xt::ts).toArray t #[.slice (some a) sLen sCap,x]).run P w=.ok (.slice (some a) (sLen+n) sCap) w' := by
 have f:te P el=some i.size:=by simp[te,hi]
 simp only[Builtin.append_,Sem.run_bind,sd,vw,zl,ah hs,ah e,Result.andThen_ok,run_sizeOf f,Sem.run_pure,
  dK,if_false,b]
 simp_all
theorem DO {b:Option Addr}{x:Value}(hs:P.underlying st=some (.slice el))(h:P.underlying xt=some (.slice e2))(hi:P.info? el=some i)(e:sLen≤sCap)(f:(Builtin.lenOf x).run P w=.ok 0 w)(k:(Builtin.firstCells i.size 0 x).run P w=.ok #[] w) :
  (Builtin.append_ (st::xt::ts).toArray t #[.slice b sLen sCap,x]).run P w=.ok (.slice b sLen sCap) w:=by
 have j:te P el=some i.size:=by simp[te,hi]
 simp only[Builtin.append_,Sem.run_bind,sd,vw,zl,ah hs,ah h,Result.andThen_ok,run_sizeOf j,Sem.run_pure,
  dK,if_false,f,tZ]
 rw[if_pos e]
 cases b with
 | none=>simp_all
 | some a=>simp only[Sem.run_bind,Bool.not_false,if_true,k,Result.andThen_ok,Sem.run_pure,storeCells]
variable {S' : ag} {r : AV}
theorem Dc {w1:World}(hi:Inv S g w){cap:Nat}{m:Nat}(h:gG S sz es=some (r,S'))(p:qD g sz es c)(b:c.size=es.length*sz)(q:d.size=(cap-es.length)*sz)(f:es.length≤cap)(hh:w1.heap=w.heap.push (.cells (c++d) el))(u:w1.os=w.os)(v:La w1 w)(hu:w1.output=w.output)(A:m=w.heap.size) :
  ∃ g', VR g' r (.slice (some ⟨m,0,none⟩) es.length cap)∧Inv S' g' w1∧Ext S g w S' g' w1:=by
 subst A
 unfold gG at h
 split at h<;>simp only[bj,nj,reduceCtorEq] at h
 rename_i hb
 obtain⟨rfl,rfl⟩:=h
 simp only[aS] at hb
 have c2:=gw hb.1
 have c3:=gw hb.2
 have k:=p.more d b
 obtain ⟨B,q2⟩:=hi.alloc (w' := w1) (by omega) (o:=.arr sz es) (ob:=.cells (c++d) el) (l:=⟨w.heap.size,0,sz,(c++d).size⟩) rfl
  ⟨c++d,el,rfl,rfl,rfl,by simpa using k.1,k.2.1,fun i j e a y C D E=>k.2.2 i j e a y C D (by simpa using E)⟩ hh u v hu c3
 refine⟨_,?_,B,q2⟩
 have:=VR.ai (g:=g.add S.nx ⟨w.heap.size,0,sz,(c++d).size⟩) (id:=S.nx) (off:=0) (len:=es.length) (cap:=cap) (Gh.add_same _ _ _) f
  (by simp[b,q];rw[←gD];congr 1;omega)
 simpa using this
def JG (P:Program)(S:ag)(ts:List TypeId)(s x:AV):Option (AV×ag):=
 match ts with
 | st::xt::_=>match P.underlying st,P.underlying xt,s,x with
   | some (.slice el),some (.int _),.an,.sc (.int .i64 (.ofNat n))=>match P.info? el,iW P el with
     | some i,some z=>match Nat.ble 1 n&&Nat.ble n 1048576&&Nat.ble 1 i.size&&Nat.ble i.bytes 4096&&Nat.beq z.cells.length i.size&&z.cells.all eD with
       | true=>gG S i.size (List.replicate n z)
       | false=>none
     | _,_=>none
   | _,_,_,_=>none
 | _=>none
theorem Ck {o:IntKind}{k:IntKind}(hs:P.underlying st=some (.slice el))(h:P.underlying xt=some (.int o))(hi:P.info? el=some i)(p:i.zero=some z)(hb:i.bytes≤4096)(h1:1≤n)(h2:n≤1048576)(h3:1≤i.size) :
  ∃ w' cap,(Builtin.append_ (st::xt::ts).toArray t #[.slice none 0 0,.int k n]).run P w=.ok (.slice (some ⟨w.heap.size,0,none⟩) n cap) w' ∧ n≤cap ∧
   w'.heap=w.heap.push (.cells (Builtin.zeroCells z.cells n++Builtin.zeroCells z.cells (cap-n)) el)∧w'.os=w.os∧La w' w∧w'.output=w.output:=by
 have j:te P el=some i.size:=by simp[te,hi]
 have q:IntKind.i64.wrap (n:Int)=n:=zB (by omega)
 have f:n*i.bytes≤1048576*4096:=Nat.mul_le_mul h2 hb
 have a:¬ ((n:Int)*(i.bytes:Int)>2 ^ 48):=by
  grind
 have e:¬ (((0+n:Nat):Int)>IntKind.i64.max∧(True∨i.bytes=0)):=by
  have:IntKind.i64.max=9223372036854775807:=by decide
  omega
 have b:¬ (Builtin.nextslicecap (0+n) 0*i.bytes>2 ^ 48):=by
  have h1:=nextslicecap_le (0+n) 0 (by omega)
  have h2:Builtin.nextslicecap (0+n) 0*i.bytes≤(2*1048576+768)*4096:=Nat.mul_le_mul (by omega) hb
  omega
 have l:¬ (n*i.size=0):=by
  have:1*1≤n*i.size:=Nat.mul_le_mul h1 h3
  omega
 refine ⟨(w.drew).alloc (.cells (Builtin.zeroCells z.cells n++Builtin.zeroCells z.cells (Question.cut (.appendCap (0+n) 0 el) (w.tape w.drawn (.appendCap (0+n) 0 el))-n)) el),
  Question.cut (.appendCap (0+n) 0 el) (w.tape w.drawn (.appendCap (0+n) 0 el)),?_,mF (show n≤0+n by omega) (Nat.le_add_right _ _),rfl,rfl,⟨rfl,xd _⟩,rfl⟩
 have hzero:(zeroValue el).run P w.drew=.ok z w.drew:=by simp[zeroValue,cV hi,p]
 have m:(asInt (.int k (n:Int))).run P w=.ok (n:Int) w:=rfl
 simp only[Builtin.append_,Sem.run_bind,sd,vw,zl,ah hs,ah h,Result.andThen_ok,run_sizeOf j,Sem.run_pure,
  if_true,m,q]
 rw[if_neg (by omega)]
 simp only[Sem.run_bind,cV hi,Result.andThen_ok]
 rw[if_neg a]
 simp only[Sem.run_bind,Sem.run_pure,Result.andThen_ok,ub]
 rw[if_neg (by omega)]
 simp only[Sem.run_bind,cV hi,Result.andThen_ok]
 rw[if_neg e]
 simp only[Sem.run_bind,cV hi,Result.andThen_ok]
 rw[if_neg b]
 simp only[Sem.run_bind,run_choose,Question.forced,dK,if_false,Result.andThen_ok,cV hi,run_askRoom,World.drew_eq,Builtin.firstCells,Sem.run_pure,Bool.not_true,l,hzero,newRow,run_newObj,xf,Array.empty_append]
 rfl
variable {s : AV} {sv xv : Value}
theorem Hn (hi:Inv S g w)(h:JG P S ts s x=some (r,S'))(hs:VR g s sv)(hx:VR g x xv) :
  ∃ z w' g', (Builtin.append_ ts.toArray t #[sv,xv]).run P w=.ok z w' ∧ VR g' r z∧Inv S' g' w' ∧ Ext S g w S' g' w' := by
 unfold JG at h
 split at h<;>try (simp at h;done)
 rename_i st xt ts
 split at h<;>try (simp at h;done)
 rename_i el J n u v
 split at h<;>try (simp at h;done)
 rename_i i z b K
 split at h<;>try (simp at h;done)
 rename_i hb
 simp only[aS] at hb
 obtain⟨⟨⟨⟨⟨j,l⟩,o⟩,p⟩,q⟩,C⟩:=hb
 have j:=gw j
 have l:=gw l
 have o:=gw o
 have p:=gw p
 have q:=oR q
 obtain ⟨e,A,B⟩:∃ e,i.zero=some e∧VR g z e:=by
  grind[iW,uS]
 have f:=j7 B C
 have a:e.cells.size=i.size:=by rw[←f.1,q]
 cases hs with | an=>?_
 cases hx with | sc _=>?_
 obtain⟨w', cap,L,D,E,F,G,H⟩:=Ck (P:=P) (w:=w) (ts:=ts) (k:=.i64) (t:=t) u v b A p j l o
 have I:=AD (n:=n) (m:=n) f (bG _)
 rw[a] at I
 obtain ⟨g', M,N,v3⟩:=Dc (w1:=w') (el:=el) (cap:=cap) (c:=Builtin.zeroCells e.cells n) (d:=Builtin.zeroCells e.cells (cap-n)) hi h (by grind[Builtin.zeroCells]) (by simp[Builtin.zeroCells,a]) (by simp[Builtin.zeroCells,a])
  (by simpa using D) E F G H rfl
 grind
theorem Ext.del {S:ag}{g:Gh}{w:World}{id:Nat}(h:Ok id)(a:S.lim≤id):Ext S g w (S.del id) g w:=
 by grind[Ext.forget,ag.JF,ag.dL]
theorem Gm (hi:Inv S g w)(h:qG P S ts s x=some (r,S'))(hs:VR g s sv)(hx:VR g x xv) :
   ∃ z w' g', (Builtin.append_ ts.toArray t #[sv,xv]).run P w=.ok z w' ∧ VR g' r z∧Inv S' g' w' ∧ Ext S g w S' g' w' := by
 unfold qG at h
 split at h<;>try (simp at h;done)
 rename_i st xt ts
 split at h<;>try (simp at h;done)
 rename_i el e2 T U
 split at h<;>try (simp at h;done)
 rename_i i z xs p Z hxs
 split at h<;>try (simp at h;done)
 rename_i hb
 simp only[aS] at hb
 obtain⟨⟨⟨⟨b1,b2⟩,b3⟩,b4⟩,b5⟩:=hb
 have b2:=gw b2
 have b3:=gw b3
 have b4:=oR b4
 have hsz:te P el=some i.size:=by simp[te,p]
 obtain ⟨M,hzi,hzv⟩:∃ M,i.zero=some M∧VR g z M:=by
   unfold iW at Z
   rw[p] at Z
   simp only at Z
   split at Z<;>simp only[bj,reduceCtorEq] at Z
   rename_i M e;subst Z;exact⟨M,e,uS g M⟩
 have hzs:M.cells.size=i.size:=by rw[←(j7 hzv b5).1,b4]
 have hzc:∀ k,(Builtin.zeroCells M.cells k).size=k*i.size:=by intro k;simp[Builtin.zeroCells,hzs]
 obtain⟨xa,xcap,D,hxe,hxcap,V,W,B⟩:=rQ (P:=P) hi hxs hx b1
 have X:∀ w', (Builtin.lenOf xv).run P w' = .ok xs.length w' := by intro w';rw[hxe];rfl
 split at h
 ·
   split at h<;>try (simp at h;done)
   rename_i es C
   split at h<;>simp only[bj,nj,reduceCtorEq] at h
   rename_i hsd
   obtain⟨rfl,rfl⟩:=h
   obtain⟨sa,f,sc,A,hsc,_,_,_⟩:=rQ (P:=P) hi C hs hsd
   refine⟨sv,w,g,?_,hs,hi,Ext.refl _ _ _⟩
   rw[A]
   refine DO T U p hsc (X w) ?_
   have h0:=V w rfl
   simp only[Uq] at h0
   rw[h0]
   have:D.size=0:=by rw[B];simp
   rw[Array.eq_empty_of_size_eq_zero this]
 · rename_i q u
   have grow:∀(S0:ag) (es:List AV) (sb:Option Addr) (f:Nat) (sc:Array Value),Inv S0 g w→gG S0 i.size (es++q::u)=some (r,S')→(es++q::u).length≤1048576→f<es.length+(q::u).length →
       (∀ w', w'.heap=w.heap→(Builtin.firstCells i.size es.length (.slice sb es.length f)).run P w' = .ok sc w')→qD g i.size es sc→sc.size=es.length*i.size →
       ∃ z w' g', (Builtin.append_ (st::xt::ts).toArray t #[.slice sb es.length f,xv]).run P w=.ok z w' ∧ VR g' r z∧Inv S' g' w' ∧ Ext S0 g w S' g' w' := by
     intro S0 es sb f sc hi0 hnew m I hrun hE E
     obtain⟨w', cap,N,O,Q,r4,r5,r6⟩:=run_append_grow (P:=P) (ts:=ts) (t:=t) T U p hzi b3 (by simp at m ⊢;omega) I (X w) hrun V
     obtain ⟨g', v1,v2,v3⟩:=Dc (w1:=w') (el:=el) (cap:=cap) hi0 hnew (hE.append W E) (by simp[E,B,gD]) (d:=Builtin.zeroCells M.cells (cap-(es.length+(q::u).length)))
       (by rw[hzc];simp) (by simp at O ⊢;omega) Q r4 r5 r6 rfl
     exact⟨_,w', g', N,by simpa using v1,v2,v3⟩
   split at h<;>try (simp at h;done)
   · split at h<;>try (simp at h;done)
     rename_i m
     have m:=gw m
     cases hs with | an=>?_
     exact grow S [] none 0 #[] hi (by simpa using h) (by simpa using m) (by simp) (by intro w' _;simp[Builtin.firstCells]) ⟨by simp,by simp,by simp⟩ (by simp)
   · split at h<;>try (simp at h;done)
     rename_i m
     have m:=gw m
     cases hs with | ft=>?_
     rename_i a
     refine grow S [] a 0 #[] hi (by simpa using h) (by simpa using m) (by simp) ?_ ⟨by simp,by simp,by simp⟩ (by simp)
     intro w' _;cases a<;>simp[Builtin.firstCells,loadCells,loadCellsFrom]
   · rename_i id off len
     split at h
     · rename_i S2 F
       simp only[bj,nj] at h
       obtain⟨rfl,rfl⟩:=h
       unfold B0 at F
       split at F<;>try (simp at F;done)
       rename_i sz es hg
       split at F<;>simp only[bj,reduceCtorEq] at F
       rename_i hc
       simp only[aS] at hc
       have d1:=oR hc.1.1
       have d2:=gw hc.1.2
       have d3:=gw hc.2
       subst F
       subst d1
       obtain⟨l,q1,q2,q3⟩:=hi.ob _ _ hg
       obtain⟨w', N,O,Q⟩:=FQ (P:=P) (off:=off+len) hi hg d2 q1 b1 W B d3
       obtain⟨c,t', p1,p2,K,p4,p5,p6⟩:=q3
       have hmul:(off+len+(q::u).length)*i.size≤es.length*i.size:=yp _ d3
       cases hs with
       | hM L Z=>
         exfalso
         rw[q1] at L;simp only[bj] at L;subst L
         rw[K] at Z
         rw[gD,gD] at hmul
         have:1*1≤(q::u).length*i.size:=Nat.mul_le_mul (by simp) b2
         omega
       | ai L I H=>
         rename_i cap lq
         rw[q1] at L;simp only[bj] at L;subst L
         rw[K] at H ⊢
         have m:(off+len+(q::u).length)*i.size≤(off+cap)*i.size:=by omega
         have hle2:=Nat.le_of_mul_le_mul_right m (by omega)
         have ha:(⟨l.cZ,l.base+off*i.size,none⟩:Addr).add (len*i.size)=⟨l.cZ,l.base+(off+len)*i.size,none⟩:=by
          rw[Addr.n8,gD,Nat.add_assoc]
         refine⟨_,w', g,run_append_fits T U p (by omega) (X w) (V w rfl) (by rw[ha];exact N),?_,O,Q⟩
         have:=VR.ai (g:=g) (id:=id) (off:=off) (len:=len+(q::u).length) (cap:=cap) q1 (by omega) (by rw[K];exact H)
         rw[K] at this;exact this
     split at h<;>try (simp at h;done)
     rename_i sz es' es hg C
     split at h<;>try (simp at h;done)
     rename_i hb
     simp only[aS] at hb
     have c1:=gw hb.1.1.1
     have c3:=gw hb.1.2
     have c4:=oR hb.2
     obtain⟨sa,f,sc,A,hsc,hsr,hsE,E⟩:=rQ (P:=P) hi C hs hb.1.1.2
     have bE:=ag.iw hg
     by_cases hfit:es.length+(q::u).length≤f
     ·
       cases hs with
       | hM=>
         simp only[Value.slice.injEq] at A
         exfalso;simp at hfit;omega
       | ai L I H=>
         rename_i cap l
         simp only[Value.slice.injEq] at A
         obtain⟨e1,e2,e3⟩:=A
         subst e3
         obtain⟨l', q1,q2,q3⟩:=hi.ob _ _ hg
         rw[L] at q1;simp only[bj] at q1;subst q1
         obtain⟨c,t', p1,p2,K,p4,p5,p6⟩:=q3
         have hes' : es=(es'.drop off).take len∧off+len≤es'.length:=by
          simp only[iT,se,hg] at C
          split at C<;>simp only[bj,reduceCtorEq] at C
          rename_i m;exact⟨C.symm,gw m⟩
         obtain⟨hes1,hes2⟩:=hes'
         have hxc1:∀ k,k<D.size→∃ e a,(q::u)[k/i.size]? = some e∧e.cells[k%i.size]? = some a∧eD a=true:=by
          intro k hk
          rw[B] at hk
          have h1:k/i.size<(q::u).length:=Nat.div_lt_of_lt_mul (by rw[Nat.mul_comm];exact hk)
          have h2:k%i.size<i.size:=Nat.mod_lt _ (by omega)
          obtain⟨s1,s2⟩:=j8 b1 (cM h1)
          have h3:k%i.size<(q::u)[k/i.size].cells.length:=by rw[s1];exact h2
          exact⟨_,_,qB h1,qB h3,dg.1 s2 _ (cM h3)⟩
         have hone:∀ y,y∈D.toList→y.oneCell' = true:=by
          intro y hy
          obtain⟨k,hk⟩:=hU hy
          have hk' : D[k]? = some y:=by simpa using hk
          obtain⟨e,a,R,f2,f3⟩:=hxc1 k (BG.1 hk').1
          refine ry f3 (W.2.2 _ _ e a y R f2 ?_)
          rw[←hk'];congr 1;rw[Nat.mul_comm];exact Nat.div_add_mod k i.size
         have hroom:l.base+off*l.sz+len*i.size+D.toList.length≤c.size:=by
          rw[p2,show D.toList.length=D.size from Fm,B]
          have:(off+(len+(q::u).length))*l.sz≤(off+cap)*l.sz:=yp _ (by omega)
          rw[gD,gD,K,c4] at this
          rw[K,c4] at H ⊢
          omega
         obtain⟨w', N,O,Q,r4,r5,r6,r7⟩:=ot (P:=P) (b:=l.cZ) (o:=l.base+off*l.sz+len*i.size) (t:=t') D.toList w c 0 p1 (by omega) hone
         unfold gG at h
         split at h<;>simp only[bj,nj,reduceCtorEq] at h
         rename_i hn2
         obtain⟨rfl,rfl⟩:=h
         simp only[aS] at hn2
         have d2:S.nx+1≤8192:=gw hn2.1
         have hxl2:D.toList.length=(q::u).length*i.size:=by rw[show D.toList.length=D.size from Fm];exact B
         have J:(es++q::u).length=len+(q::u).length:=by rw[sg,e2]
         have hsz' : (mP c.toList (l.base+off*l.sz+len*i.size+0) D.toList).toArray.size=l.bz:=by simp[gz,p2]
         obtain ⟨m1,m2⟩:=hi.move (w' := w') (by omega) (o' := .arr i.size (es++q::u)) (l' := ⟨l.cZ,l.base+off*l.sz,i.size,l.bz⟩) hg c3 L rfl r4 O Q r5 r6 r7 (by
          refine⟨_,t', rfl,hsz', rfl,?_,?_,?_⟩
          · rw[hsz', J,←p2]
            have:(q::u).length*i.size=D.toList.length:=hxl2.symm
            rw[gD,this]
            show l.base+off*l.sz+(len*i.size+D.toList.length)≤c.size
            omega
          · intro e he
            rcases fc.1 he with k | k
            · rw[hes1] at k;rw[p5 e (Jn (vu k)),c4]
            · exact(j8 b1 k).1
          · intro G j e a y R f2 f3
            rw[sd,iE _ _ _ (by simp at hroom ⊢;omega)] at f3
            simp only[tZ] at f3
            by_cases hi2:G<es.length
            · rw[BX hi2] at R
              have Y:G<len:=by omega
              have f1' : es'[off+G]? = some e:=by
               rw[hes1,tW,if_pos Y,qW] at R;exact R
              have hj:j<i.size:=by rw[←c4,←p5 e (vj f1')];exact(mC.1 f2).1
              have hm:G*i.size+i.size≤len*i.size:=by
               have:(G+1)*i.size≤len*i.size:=yp _ Y
               rw[nY] at this;exact this
              rw[if_neg (by omega)] at f3
              refine p6 (off+G) j e a y f1' f2 ?_
              rw[←zn,←f3];congr 1
              rw[K,c4,gD];omega
            · rw[zj (by omega)] at R
              have Y:G-es.length<(q::u).length:=(mC.1 R).1
              have hj:j<i.size:=by rw[←(j8 b1 (vj R)).1];exact(mC.1 f2).1
              have hm:(G-es.length)*i.size+i.size≤D.toList.length:=by
               have:(G-es.length+1)*i.size≤(q::u).length*i.size:=yp _ Y
               rw[nY] at this;rw[hxl2];exact this
              have hi4:G*i.size=len*i.size+(G-es.length)*i.size:=by
               rw[←gD];congr 1;omega
              rw[if_pos (by omega)] at f3
              refine W.2.2 _ j e a y R f2 ?_
              rw[←zn,←f3];congr 1
              omega)
         refine⟨_,w', _,run_append_fits T U p (by omega) (X w) (V w rfl) (by rw[Addr.n8];exact N),?_,m1,m2⟩
         have hv:=VR.ai (g:=g.add S.nx ⟨l.cZ,l.base+off*l.sz,i.size,l.bz⟩) (id:=S.nx) (off:=0) (len:=(es++q::u).length) (cap:=cap) (Gh.add_same _ _ _) (by rw[J];omega)
          (by
            show l.base+off*l.sz+(0+cap)*i.size=l.bz
            rw[gD,K,c4] at H
            rw[K,c4,xf];omega)
         rw[J] at hv ⊢
         rw[show(S.del id).nx=S.nx from rfl]
         simpa using hv
     · obtain⟨z,w', g', N,O,Q,r4⟩:=grow (S.del id) es sa f sc (hi.sub (ag.JF bE)) (by simpa using h) (by simp at c1 ⊢;omega) (by omega) (by rw[←A];exact hsr) hsE E
       exact⟨z,w', g', by rw[A];exact N,O,Q,(Ext.del bE c3).trans r4⟩
   · rename_i v
     split at h<;>try (simp at h;done)
     rename_i es C
     split at h<;>try (simp at h;done)
     rename_i hb
     simp only[aS] at hb
     have c1:=gw hb.1
     obtain⟨sa,f,sc,A,hsc,hsr,hsE,E⟩:=rQ (P:=P) hi C hs hb.2
     cases hs with | clip hv=>?_
     simp only[Value.slice.injEq] at A
     obtain⟨rfl,e2,e3⟩:=A
     subst e3
     subst e2
     obtain⟨z,w', g', N,O,Q,r4⟩:=grow S es _ _ sc hi h (by simp at c1 ⊢;omega) (by simp) hsr hsE E
     exact⟨z,w', g', N,O,Q,r4⟩
end
end Go.Eng
namespace Go.Eng
noncomputable section
def CW (P:Program)(S:ag)(t:TypeId)(x:AV):Option Nat:=
 match P.underlying t,x with
 | some .string,.sc (.string s)=>some s.size
 | some (.array n _),_=>some n
 | some (.slice _),.lit es=>some es.length
 | some (.slice _),.ai _ _ n=>some n
 | some (.slice _),.ft=>some 0
 | some (.slice _),.an=>some 0
 | some (.map _ _),.sc (.map none)=>some 0
 | some (.map _ _),.cQ id=>match S.get id with
   | some (.mp c)=>some c.length
   | _=>none
 | _,_=>none
variable {P : Program} {S : ag} {g : Gh} {w : World} {t ty : TypeId} {ts : List TypeId} {y : Value} {n : Nat}
theorem Mt (hi:Inv S g w){x:AV}(h:CW P S t x=some n)(c:VR g x y) :
   (Builtin.len_ (t::ts).toArray ty #[y]).run P w=.ok (.int .i64 n) w:=by
 unfold CW at h
 split at h<;>(try simp only[bj,reduceCtorEq] at h)
 · rename_i hu;subst h;cases c with | sc _=>simp[Builtin.len_,ah hu,goInt]
 · rename_i hu;subst h;cases y<;>simp[Builtin.len_,goInt,ah hu]
 · rename_i hu;subst h;cases c<;>simp[Builtin.len_,ah hu,goInt]
 · rename_i hu;subst h;cases c<;>simp[Builtin.len_,ah hu,goInt]
 · rename_i hu;subst h;cases c<;>simp[Builtin.len_,ah hu,goInt]
 · rename_i hu;subst h;cases c<;>simp[Builtin.len_,ah hu,goInt]
 · rename_i hu;subst h;cases c with | sc _=>simp[Builtin.len_,ah hu,goInt]
 · rename_i id hu
   split at h<;>simp only[bj,reduceCtorEq] at h
   rename_i p f
   subst h
   cases c with
   | cQ i=>
     obtain⟨l', e,q2,q3⟩:=hi.ob _ _ f
     rw[i] at e;simp only[bj] at e;subst e
     obtain⟨es,k,j,o,q⟩:=q3
     simp[Builtin.len_,ah hu,goInt,getObj,Sem.run,j,o]
def TW (P:Program)(t:TypeId)(x:AV):Option Nat:=
 match P.underlying t,x with
 | some (.slice _),.ft=>some 0
 | some (.slice _),.an=>some 0
 | _,_=>none
theorem Mu {x:AV}(h:TW P t x=some n)(c:VR g x y) :
   (Builtin.cap_ (t::ts).toArray ty #[y]).run P w=.ok (.int .i64 n) w:=by
 unfold TW at h
 split at h<;>simp only[bj,reduceCtorEq] at h
 · rename_i e hu
   subst h
   cases c
   simp[Builtin.cap_,ah hu,goInt]
 · rename_i e hu
   subst h
   cases c
   simp[Builtin.cap_,ah hu,goInt]
def n6 (P:Program)(t:TypeId)(a c:AV):Option AV:=
 match P.underlying t,a,wc c with
 | some (.array len el),.agg cs,some k=>match Nat.ble (k+1) len,te P el with
   | true,some n=>Fp P el cs (k*n)
   | _,_=>none
 | some .string,.sc (.string s),some k=>match s[k]? with
   | some b=>some (.sc (.int .u8 b.toNat))
   | none=>none
 | _,_,_=>none
variable {x : Value} {a r : AV}
theorem Ho {i:AV}(h:n6 P t a i=some r)(ha:VR g a x)(hx:VR g i y):∃ z,(Instr.index t x y).run P w=.ok z w∧VR g r z:=by
 unfold n6 at h
 split at h<;>try (simp at h;done)
 · rename_i len el cs k hu f
   obtain⟨j,rfl⟩:=ia f hx
   split at h<;>try (simp at h;done)
   rename_i n c o
   have c:=gw c
   cases ha with
   | agg p hh=>
     obtain⟨z,e,q⟩:=vR (P:=P) (w:=w) h ⟨p,hh⟩
     refine⟨z,?_,q⟩
     simp only[Instr.index,asIntOf,Sem.run_bind,Sem.run_pure,Result.andThen_ok,ah hu]
     rw[if_pos (by grind)]
     simp only[Sem.run_bind,run_sizeOf o,Result.andThen_ok]
     exact e
 · rename_i s k hu f
   obtain⟨j,rfl⟩:=ia f hx
   split at h<;>simp only[bj,reduceCtorEq] at h
   rename_i b hb
   subst h
   cases ha with
   | sc _=>exact⟨_,by simp[Instr.index,asIntOf,ah hu,hb],.sc rfl⟩
def Ih (isMax:Bool):List AV→Option AV
 | [.sc (.int .i64 a)]=>some (.sc (.int .i64 a))
 | [.sc (.int k a),.sc (.int c b)]=>if k=c then some (.sc (.int k (match isMax with
  | true=>if b>a then b else a
  | false=>if b<a then b else a))) else none
 | _=>none
def Of (P:Program)(S:ag)(ts:List TypeId)(d x:AV):Option (Nat×ag):=
 match ts with
 | t::_=>match P.underlying t,d with
   | some (.slice el),.ai id off len=>match S.get id,iT S x,te P el with
     | some (.arr sz es),some xs,some n=>match Nat.beq sz n&&Nat.ble S.lim id&&Nat.ble (off+len) es.length&&sized n xs with
       | true=>some (min xs.length len,S.set id (.arr sz (mP es off (xs.take (min xs.length len)))))
       | false=>none
     | _,_,_=>none
   | _,_=>none
 | _=>none
variable {l : List AV} {xs : Array Value}
theorem Mv {ts:Array TypeId}(h:Ih true l=some r)(f:hJ g l xs):∃ z,(Builtin.max_ ts t xs).run P w=.ok z w∧VR g r z:=by
 unfold Ih at h
 split at h<;>try (simp at h;done)
 · obtain⟨x,e,hx⟩:=f.get (k:=0) rfl
   have hs:xs.size=1:=f.1.symm
   have c:xs.toList=[x]:=by
    apply zm;grind
   simp only[bj] at h;subst h
   cases hx with | sc _=>exact⟨_,by simp[Builtin.max_,c],.sc rfl⟩
 · obtain⟨x,e,hx⟩:=f.get (k:=0) rfl
   obtain⟨y,i,hy⟩:=f.get (k:=1) rfl
   have hs:xs.size=2:=f.1.symm
   have c:xs.toList=[x,y]:=by
    apply zm;intro k
    match k with
    | 0=>simpa using e
    | 1=>simpa using i
    | k+2=>rw[zo (by simp[hs])];simp
   split at h<;>simp only[bj,reduceCtorEq] at h
   rename_i j;subst j;subst h
   cases hx with | sc _=>?_
   cases hy with | sc _=>?_
   exact⟨_,by simp[Builtin.max_,c,Builtin.max2],.sc rfl⟩
theorem Mw {ts:Array TypeId}(h:Ih false l=some r)(f:hJ g l xs):∃ z,(Builtin.min_ ts t xs).run P w=.ok z w∧VR g r z:=by
 unfold Ih at h
 split at h<;>try (simp at h;done)
 · obtain⟨x,e,hx⟩:=f.get (k:=0) rfl
   have hs:xs.size=1:=f.1.symm
   have c:xs.toList=[x]:=by
    apply zm;grind
   simp only[bj] at h;subst h
   cases hx with | sc _=>exact⟨_,by simp[Builtin.min_,c],.sc rfl⟩
 · obtain⟨x,e,hx⟩:=f.get (k:=0) rfl
   obtain⟨y,j,hy⟩:=f.get (k:=1) rfl
   have hs:xs.size=2:=f.1.symm
   have c:xs.toList=[x,y]:=by
    apply zm;grind
   split at h<;>simp only[bj,reduceCtorEq] at h
   rename_i i;subst i;subst h
   cases hx with | sc _=>?_
   cases hy with | sc _=>?_
   exact⟨_,by simp[Builtin.min_,c,Builtin.min2],.sc rfl⟩
theorem qD.take {g:Gh}{n:Nat}{es:List AV}{c:Array Value}(h:qD g n es c)(k:Nat):qD g n (es.take k) c:=
 ⟨mF (yp _ (by simp;omega)) h.1,fun e o=>h.2.1 e (vu o),fun i j e a y f p q=>by
  rw[tW] at f
  split at f
  · exact h.2.2 i j e a y f p q
  · simp at f⟩
variable {es : List AV}
theorem LK {x:AV}{a:Option Addr}{f k:Nat}(h:se S x=some es)(s:VR g x (.slice a n f))(p:k≤es.length)(u:k≤f):∃ x', iT S x' = some (es.take k)∧VR g x' (.slice a k f):=by
 unfold se at h
 split at h<;>try (simp at h;done)
 · simp only[bj] at h;subst h
   refine⟨.lit (List.take k _),rfl,?_⟩
   cases s with
   | jV=>simp at p;subst p;exact .jV
   | lit E hs hb C hh=>
     rename_i es b o sz c
     have B:(es.take k).length=k:=by simp;omega
     have:=VR.lit (g:=g) (es:=es.take k) (cap:=f) E (sz:=sz) (fun e F=>hs e (vu F)) (mF (Nat.add_le_add_left (yp _ (by omega)) _) hb) (by omega)
      (fun i j e a x J K L=>by
       grind)
     grind
 · rename_i id off len
   split at h<;>try (simp at h;done)
   rename_i sz q G
   split at h<;>simp only[bj,reduceCtorEq] at h
   rename_i v
   have D:=gw v
   subst h
   have B:((q.drop off).take len).length=len:=by simp;omega
   rw[B] at p
   refine⟨.ai id off k,?_,?_⟩
   · simp only[iT,se,G]
     rw[show(off+k).ble q.length=true from GY (by omega)]
     simp only[bj]
     rw[List.take_take,Nat.min_eq_left p]
   · cases s with
     | hM H I=>simp at p;subst p;exact .hM H I
     | ai A M hb=>exact .ai A u hb
 · simp only[bj] at h;subst h
   simp at p;subst p
   cases s with | an=>exact⟨.an,rfl,.an⟩
 · simp only[bj] at h;subst h
   simp at p;subst p
   cases s with | ft=>exact⟨.ft,rfl,.ft⟩
variable {cap : Nat}
theorem Qq {x:AV}{a:Option Addr}(h:se S x=some es)(c:VR g x (.slice a n cap)):es.length=n∧n≤cap:=by
 unfold se at h
 split at h<;>try (simp at h;done)
 · simp only[bj] at h;subst h
   cases c<;>grind
 · split at h<;>try (simp at h;done)
   split at h<;>simp only[bj,reduceCtorEq] at h
   rename_i e
   have f:=gw e
   subst h
   cases c<;>grind
 · simp only[bj] at h;subst h
   cases c<;>grind
 · simp only[bj] at h;subst h
   cases c<;>grind
theorem Ya {x:AV}{a:Option Addr}{k:Nat}(h:iT S x=some es)(c:VR g x (.slice a n cap))(j:k≤es.length):∃ x' e,iT S x' = some (es.take k)∧VR g x' (.slice a k e):=by
 unfold iT at h
 split at h
 · cases c with | clip c=>?_
   obtain⟨f,i⟩:=Qq h c
   grind[LK]
 · obtain⟨f,i⟩:=Qq h c
   grind[LK]
variable {S' : ag}
theorem J5 (hi:Inv S g w){d x:AV}{dv xv:Value}(h:Of P S ts d x=some (n,S'))(hd:VR g d dv)(hx:VR g x xv) :
   ∃ w', (Builtin.copy_ ts.toArray t #[dv,xv]).run P w=.ok (.int .i64 n) w' ∧ Inv S' g w' ∧ Ext S g w S' g w' := by
 unfold Of at h
 split at h<;>try (simp at h;done)
 rename_i st ts
 split at h<;>try (simp at h;done)
 rename_i el id off len I
 split at h<;>try (simp at h;done)
 rename_i sz es xs sn F J K
 split at h<;>simp only[bj,nj,reduceCtorEq] at h
 rename_i hb
 simp only[aS] at hb
 obtain⟨⟨⟨W,T⟩,b3⟩,b4⟩:=hb
 have W:=oR W
 have T:=gw T
 have b3:=gw b3
 obtain⟨rfl,rfl⟩:=h
 subst W
 have q:sized sz (xs.take (min xs.length len))=true:=dg.2 fun e X=>dg.1 b4 e (vu X)
 have f:(xs.take (min xs.length len)).length=min xs.length len:=by simp
 obtain⟨Y,s,xc,hxe,hxcap,_,_,_⟩:=rQ (P:=P) hi J hx b4
 subst hxe
 obtain⟨x', c', hx1,hx2⟩:=Ya (k:=min xs.length len) J hx (Nat.min_le_left _ _)
 obtain⟨ya,ycap,cc,A,hycap,L,M,p⟩:=rQ (P:=P) hi hx1 hx2 q
 rw[f] at A L p
 simp only[Value.slice.injEq] at A
 obtain⟨rfl,_,rfl⟩:=A
 have B:(Builtin.firstCells sz (min xs.length len) (.slice Y xs.length s)).run P w=.ok cc w:=by
   rw[←L w rfl];cases Y<;>rfl
 have u:(Builtin.lenOf (.slice Y xs.length s)).run P w=.ok xs.length w:=rfl
 cases hd with
 | hM=>
   rename_i a
   have h0:min xs.length 0=0:=Nat.min_zero _
   rw[h0] at B p ⊢
   have:cc = #[]:=Array.eq_empty_of_size_eq_zero (by rw[p];simp)
   subst this
   refine⟨w,?_,?_⟩
   · simp only[Builtin.copy_,sd,vw,zl,Sem.run_bind,ah I,Result.andThen_ok,u,run_sizeOf K]
     show((Builtin.firstCells sz (Nat.min xs.length 0) _).run P w).andThen _=_
     rw[show Nat.min xs.length 0=0 from h0,B]
     simp[storeCells,goInt]
   · have e0:mP es off (xs.take 0)=es:=by cases es<;>rfl
     rw[e0]
     have bE:=ag.iw F
     obtain⟨l,G,q2,q3⟩:=hi.ob _ _ F
     obtain⟨c,U,Z,p2⟩:=q3
     exact hi.jr F T G rfl Z (fun _ _=>rfl) rfl ⟨rfl,bG _⟩ rfl ⟨c,U,rfl,p2⟩
 | ai hl hcap hbz=>
   rename_i cap l
   obtain⟨l', G,q2,q3⟩:=hi.ob _ _ F
   rw[hl] at G;simp only[bj] at G;subst G
   obtain⟨c,U,Z,p2,H,p4,p5,p6⟩:=q3
   have N:cc.toList.length=min xs.length len*sz:=by rw[show cc.toList.length=cc.size from Fm];exact p
   have hroom:l.base+off*l.sz+cc.toList.length≤c.size:=by
     rw[N,H]
     have:(off+min xs.length len)*sz≤es.length*sz:=yp _ (by omega)
     rw[gD] at this;omega
   have R:∀ y,y∈cc.toList→y.oneCell' = true:=by
     intro y hy
     obtain⟨k,D⟩:=hU hy
     have O:cc[k]? = some y:=by simpa using D
     have C:k<min xs.length len*sz:=by rw[←p];exact(BG.1 O).1
     have hsp:0<sz:=by
       rcases Nat.eq_zero_or_pos sz with e | e
       · rw[e] at C;simp at C
       · exact e
     have h1:k/sz<(xs.take (min xs.length len)).length:=by rw[f];exact Nat.div_lt_of_lt_mul (by rw[Nat.mul_comm];exact C)
     have h2:k%sz<sz:=Nat.mod_lt _ hsp
     obtain⟨s1,s2⟩:=j8 q (cM h1)
     have h3:k%sz<(xs.take (min xs.length len))[k/sz].cells.length:=by rw[s1];exact h2
     refine ry (dg.1 s2 _ (cM h3)) (M.2.2 _ _ _ _ y (qB h1) (qB h3) ?_)
     rw[←O];congr 1;rw[Nat.mul_comm];exact Nat.div_add_mod k sz
   obtain⟨w', r1,r2,r3,r4,r5,r6,r7⟩:=ot (P:=P) (b:=l.cZ) (o:=l.base+off*l.sz) (t:=U) cc.toList w c 0 Z (by omega) R
   refine⟨w', ?_,?_⟩
   · simp only[Builtin.copy_,sd,vw,zl,Sem.run_bind,ah I,Result.andThen_ok,u,run_sizeOf K]
     show((Builtin.firstCells sz (min xs.length len) _).run P w).andThen _=_
     rw[B]
     simp only[Result.andThen_ok,r1,Sem.run_pure]
     rfl
   · refine hi.jr F T hl r4 r2 r3 r5 r6 r7 ⟨_,U,rfl,by simp[gz,p2],H,by simp[gz];exact p4,?_,?_⟩
     · intro e X
       obtain⟨k,D⟩:=hU X
       rw[iE _ _ _ (by rw[f];omega)] at D
       split at D
       · exact(j8 q (vj D)).1
       · exact p5 e (vj D)
     · intro i j e a y v V E
       rw[iE _ _ _ (by rw[f];omega),f] at v
       rw[sd,iE _ _ _ (by omega),N] at E
       simp only[tZ] at E
       by_cases Q:off≤i∧i<off+min xs.length len
       · rw[if_pos Q] at v
         have hj:j<sz:=by rw[←(j8 q (vj v)).1];exact(mC.1 V).1
         have hm:(i-off)*sz+sz≤min xs.length len*sz:=by
          have:(i-off+1)*sz≤min xs.length len*sz:=yp _ (by omega)
          rw[nY] at this;exact this
         have hio:i*sz=off*sz+(i-off)*sz:=by rw[←gD];congr 1;omega
         rw[if_pos (by rw[H];omega)] at E
         refine M.2.2 _ j e a y v V ?_
         rw[←zn,←E];congr 1;rw[H];omega
       · rw[if_neg Q] at v
         have hj:j<sz:=by rw[←p5 e (vj v)];exact(mC.1 V).1
         have hne:¬ (l.base+off*l.sz≤l.base+i*sz+j∧l.base+i*sz+j<l.base+off*l.sz+min xs.length len*sz):=by
          rw[H]
          rintro⟨c1,c2⟩
          rcases jO i off with hlt | hge
          · have:(i+1)*sz≤off*sz:=yp _ hlt
            rw[nY] at this;omega
          · have:(off+min xs.length len)*sz≤i*sz:=yp _ (by omega)
            rw[gD] at this;omega
         rw[if_neg hne] at E
         exact p6 i j e a y v V (by simpa using E)
def JH (P:Program)(S:ag)(ts:List TypeId)(x:AV):Option ag:=
 match ts with
 | t::_=>match P.underlying t,x with
   | some (.slice el),.ai id off len=>match iW P el,S.get id with
     | some z,some (.arr sz es)=>match Nat.beq z.cells.length sz&&z.cells.all eD&&Nat.ble S.lim id&&Nat.ble (off+len) es.length with
       | true=>some (S.set id (.arr sz (mP es off (List.replicate len z))))
       | false=>none
     | _,_=>none
   | _,_=>none
 | _=>none
theorem Hp (hi:Inv S g w){x:AV}(h:JH P S ts x=some S')(hx:VR g x y) :
   ∃ w', (Builtin.clear_ ts.toArray ty #[y]).run P w=.ok (.tuple #[]) w' ∧ Inv S' g w' ∧ Ext S g w S' g w' := by
 unfold JH at h
 split at h<;>try (simp at h;done)
 rename_i t ts
 split at h<;>try (simp at h;done)
 rename_i el id off len hu
 split at h<;>try (simp at h;done)
 rename_i z sz es I j
 split at h<;>simp only[bj,reduceCtorEq] at h
 rename_i hb
 simp only[aS] at hb
 obtain⟨⟨⟨v,J⟩,f⟩,A⟩:=hb
 have v:=oR v
 have f:=gw f
 have A:=gw A
 subst h
 obtain⟨B,D,E⟩:=jF (P:=P) (w:=w) (g:=g) I
 have i:=j7 E J
 have F:B.cells.size=sz:=by rw[←i.1,v]
 obtain⟨l,o,q2,q3⟩:=hi.ob _ _ j
 have K:qD g sz (List.replicate len z) (Builtin.zeroCells B.cells len):=by
   have:=AD (n:=len) (m:=len) i (bG _)
   grind[Builtin.zeroCells]
 obtain ⟨w', L,M,N⟩:=FQ (P:=P) (off:=off) (xs:=List.replicate len z) (cc:=Builtin.zeroCells B.cells len) hi j f o
   (dg.2 fun e T=>by grind) K (by simp[Builtin.zeroCells,F]) (by simpa using A)
 have G:len=0→mP es off (List.replicate len z)=es:=by
   intro O;subst O;cases es<;>rfl
 cases hx with
 | hM p Q=>
   refine⟨w,by simp[Builtin.clear_,ah hu],?_⟩
   rw[G rfl]
   obtain⟨c,q,s,u⟩:=q3
   exact hi.jr j f o rfl s (fun _ _=>rfl) rfl ⟨rfl,bG _⟩ rfl ⟨c,q,rfl,u⟩
 | ai p H R=>
   rename_i cap U
   rw[o] at p;simp only[bj] at p;subst p
   have C:l.sz=sz:=by obtain⟨c,q,s,u,C,_⟩:=q3;exact C
   cases len with
   | zero=>
     refine⟨w,by simp[Builtin.clear_,ah hu],?_⟩
     rw[G rfl]
     obtain⟨c,q,s,u⟩:=q3
     exact hi.jr j f o rfl s (fun _ _=>rfl) rfl ⟨rfl,bG _⟩ rfl ⟨c,q,rfl,u⟩
   | succ k=>
     refine⟨w', ?_,M,N⟩
     rw[C]
     simp[Builtin.clear_,ah hu,D,L]
def Zg (d:TypeDesc)(a b:AV):Option Bool:=
 match d,a,b with
 | .int _,.sc (.int k x),.sc (.int c y)=>if k=c then some (x==y) else none
 | .string,.sc (.string x),.sc (.string y)=>some (x.data.toList==y.data.toList)
 | .bool,.sc (.bool x),.sc (.bool y)=>some (x==y)
 | _,_,_=>none
def uc (d:TypeDesc)(k:AV):List (AV×AV)→Nat→Option (Option (Nat×AV))
 | [],_=>some none
 | c::r,i=>match Zg d k c.1 with
   | some true=>some (some (i,c.2))
   | some false=>uc d k r (i+1)
   | none=>none
def rk (d:TypeDesc):Bool:=
 match d with
 | .int _=>true
 | .string=>true
 | .bool=>true
 | _=>false
variable {d : TypeDesc} {b : AV}
theorem Iy {r:Bool}(h:Zg d a b=some r)(ha:VR g a x)(hb:VR g b y):Instr.sameNow d x y=some r:=by
 unfold Zg at h
 split at h<;>try (simp at h;done)
 · cases ha with | sc _=>?_
   cases hb with | sc _=>?_
   grind[Instr.sameNow]
 · cases ha with | sc _=>?_
   cases hb with | sc _=>?_
   grind[Instr.sameNow,beq_toListBytes,ByteArray.toList_eq]
 · cases ha with | sc _=>?_
   cases hb with | sc _=>?_
   grind[Instr.sameNow]
variable {k : AV}
theorem rz (C:VR g k x):∀ {c:List (AV×AV)} {es:List MapEntry} {i:Nat} {r:Option (Nat×AV)},uc d k c i=some r→es.length=c.length →
   (∀(j:Nat) (f:AV×AV) (e:MapEntry),c[j]? = some f→es[j]? = some e→VR g f.1 e.key∧VR g f.2 e.val) →
   ∃ q,Instr.findNow d x es i=some q∧(match r,q with
     | none,none=>True
     | some (j,v),some (D,y)=>j=D∧VR g v y∧i≤j∧j<i+c.length∧(∃ f e,c[j-i]? = some f∧es[j-i]? = some e∧Zg d k f.1=some true)
     | _,_=>False):=by
 intro c
 induction c with
 | nil=>
   intro es i r h s _
   simp only[uc,bj] at h;subst h
   have:es=[]:=tY (by simpa using s)
   subst this
   exact⟨none,rfl,trivial⟩
 | cons f c G=>
   intro es i r h s E
   cases es with
   | nil=>simp at s
   | cons e es=>
     have A:=E 0 f e rfl rfl
     simp only[uc] at h
     split at h<;>try (simp at h;done)
     · rename_i u
       simp only[bj] at h;subst h
       refine⟨some (i,e.val),?_,rfl,A.2,bG _,by simp,f,e,by simp,by simp,u⟩
       simp only[Instr.findNow,Iy u C A.1]
     · rename_i u
       obtain⟨q,H,q2⟩:=G h (by simpa using s) (fun j o B p I=>E (j+1) o B (by simpa using p) (by simpa using I))
       refine⟨q,by simp only[Instr.findNow,Iy u C A.1];exact H,?_⟩
       cases r with
       | none=>cases q with
         | none=>trivial
         | some _=>exact q2.elim
       | some J=>
         obtain⟨j,v⟩:=J
         cases q with
         | none=>exact q2.elim
         | some K=>
           obtain⟨D,y⟩:=K
           obtain⟨L,a2,a3,a4,o,B,a5,a6,a7⟩:=q2
           have F:j-i=(j-(i+1))+1:=by omega
           exact⟨L,a2,by omega,by simp;omega,o,B,by rw[F];simpa using a5,by rw[F];simpa using a6,a7⟩
variable {kt : TypeId}
theorem Hq {b:Bool}(hu:P.underlying kt=some d)(c:rk d=true):(Instr.checkKey b (n+1) kt x).run P w=.ok () w:=by
 simp only[Instr.checkKey,Sem.run_bind,ah hu,Result.andThen_ok]
 cases d<;>first
  | grind[rk]
  | (cases x<;>rfl)
theorem run_checkKey {b:Bool}(hu:P.underlying kt=some d)(c:rk d=true):(Instr.checkKey b 10000 kt x).run P w=.ok () w:=
 Hq (n:=9999) hu c
theorem run_findKey {es:List MapEntry}{q:Option (Nat×Value)}(hu:P.underlying kt=some d)(h:Instr.findNow d x es 0=some q) :
  (Instr.findKey kt x es).run P w=.ok q w:=by
 simp only[Instr.findKey,Sem.run_bind,ah hu,Result.andThen_ok,h,Sem.run_pure]
def sx (P:Program)(S:ag)(t:TypeId)(m k:AV)(ok:Bool):Option AV:=
 match P.underlying t with
 | some (.map kt e)=>match P.underlying kt,(match m with
     | .cQ id=>match S.get id with
       | some (.mp c)=>some c
       | _=>none
     | .sc (.map none)=>some []
     | _=>none) with
   | some d,some c=>match rk d,uc d k c 0 with
     | true,some (some (_,v))=>some (match ok with
       | true=>.bO [v,.sc (.bool true)]
       | false=>v)
     | true,some none=>match iW P e with
       | some z=>some (match ok with
         | true=>.bO [z,.sc (.bool false)]
         | false=>z)
       | none=>none
     | _,_=>none
   | _,_=>none
 | _=>none
theorem hJ.two (h:VR g a x)(c:VR g b y):hJ g [a,b] #[x,y]:=by grind[hJ.cons,hJ.nil]
theorem VR.two {g:Gh}{a b:AV}{x y:Value}(h:VR g a x)(c:VR g b y):VR g (.bO [a,b]) (.tuple #[x,y]):=.bO (hJ.two h c).1 (hJ.two h c).2
variable {m : AV}
theorem ad8 (hi:Inv S g w){c:List (AV×AV)}(h:(match m with
     | .cQ id=>match S.get id with
       | some (.mp c)=>some c
       | _=>none
     | .sc (.map none)=>some []
     | _=>none)=some c)(o:VR g m x):∃ es:Array MapEntry,((x=.map none∧es = #[])∨∃ r ck,x=.map (some r)∧w.heap[r]? = some (.map es ck))∧es.toList.length=c.length∧(∀(j:Nat) (f:AV×AV) (e:MapEntry),c[j]? = some f→es.toList[j]? = some e→VR g f.1 e.key∧VR g f.2 e.val):=by
 split at h<;>try (simp at h;done)
 · split at h<;>simp only[bj,reduceCtorEq] at h
   rename_i p q
   subst h
   cases o with
   | cQ s=>
     obtain⟨l', i,q2,q3⟩:=hi.ob _ _ q
     rw[s] at i;simp only[bj] at i;subst i
     obtain⟨es,k,u,v,A,_⟩:=q3
     exact⟨es,.inr ⟨_,k,rfl,u⟩,by simpa using v,fun j f e a b=>A j f e a (by simpa using b)⟩
 · simp only[bj] at h;subst h
   cases o<;>simp_all
variable {ok : Bool}
theorem Gn (hi:Inv S g w)(h:sx P S t m k ok=some r)(D:VR g m x)(s:VR g k y) :
   ∃ z,(Instr.lookup t x y ok).run P w=.ok z w∧VR g r z:=by
 unfold sx at h
 split at h<;>try (simp at h;done)
 rename_i kt I hu
 split at h<;>try (simp at h;done)
 rename_i d G f p
 obtain⟨es,j,u,A⟩:=ad8 hi p D
 split at h<;>try (simp at h;done)
 · rename_i i v c hf
   simp only[bj] at h
   obtain⟨q,o,q2⟩:=rz s hf u A
   cases q with
   | none=>exact q2.elim
   | some B=>
     obtain⟨J,z⟩:=B
     obtain⟨K,a2,_⟩:=q2
     refine⟨if ok then .tuple #[z,.bool true] else z,?_,?_⟩
     · rcases j with⟨rfl,rfl⟩ | ⟨E,ck,rfl,j⟩ <;>
        simp only[Instr.lookup,Sem.run_bind,ah hu,Result.andThen_ok,getObj,Sem.run,Sem.run_pure, *, run_checkKey f c,run_findKey f o]
     · subst h;cases ok
       · exact a2
       · exact VR.two a2 (.sc rfl)
 · rename_i c hf
   split at h<;>simp only[bj,reduceCtorEq] at h
   rename_i z F
   obtain⟨C,H,e⟩:=jF (P:=P) (w:=w) (g:=g) F
   obtain⟨q,o,q2⟩:=rz s hf u A
   cases q with
   | some B=>exact q2.elim
   | none=>
     refine⟨if ok then .tuple #[C,.bool false] else C,?_,?_⟩
     · rcases j with⟨rfl,rfl⟩ | ⟨E,ck,rfl,j⟩ <;>
        simp only[Instr.lookup,Sem.run_bind,ah hu,Result.andThen_ok,getObj,Sem.run,Sem.run_pure, *, run_checkKey f c,run_findKey f o]
     · subst h;cases ok
       · exact e
       · exact VR.two e (.sc rfl)
def n9 (P:Program)(S:ag)(t:TypeId)(m k v:AV):Option ag:=
 match P.underlying t,m with
 | some (.map kt _),.cQ id=>match P.underlying kt,S.get id with
   | some d,some (.mp c)=>match rk d&&Nat.ble S.lim id,uc d k c 0 with
     | true,some (some (i,_))=>some (S.set id (.mp (c.set i (k,v))))
     | true,some none=>some (S.set id (.mp (c++[(k,v)])))
     | _,_=>none
   | _,_=>none
 | _,_=>none
theorem U2 (h:Zg d a b=some true)(ha:VR g a x)(hb:VR g b y):Instr.sameBits 10000 y x=true:=by
 unfold Zg at h
 split at h<;>try (simp at h;done)
 · cases ha with | sc _=>?_
   cases hb with | sc _=>?_
   grind[Instr.sameBits]
 · cases ha with | sc _=>?_
   cases hb with | sc _=>?_
   rename_i xs ys _ _
   simp only[bj] at h
   have:(ys==xs)=true:=by rw[beq_toListBytes,ByteArray.toList_eq,ByteArray.toList_eq];simp at h ⊢;exact h.symm
   simpa [Instr.sameBits] using this
 · cases ha with | sc _=>?_
   cases hb with | sc _=>?_
   simp at h;subst h;simp[Instr.sameBits]
variable {z : Value}
theorem xH (hi:Inv S g w){v:AV}(h:n9 P S t m k v=some S')(Y:VR g m x)(H:VR g k y)(W:VR g v z) :
   ∃ w', (Instr.mapUpdate t x y z).run P w=.ok () w' ∧ Inv S' g w' ∧ Ext S g w S' g w' := by
 unfold n9 at h
 split at h<;>try (simp at h;done)
 rename_i kt et id hu
 split at h<;>try (simp at h;done)
 rename_i d I K N
 cases Y with
 | cQ O=>
   rename_i l
   obtain⟨l', Q,q2,q3⟩:=hi.ob _ _ N
   rw[O] at Q;simp only[bj] at Q;subst Q
   obtain⟨es,ck,R,G,L,T,U⟩:=q3
   have J:∀(j:Nat) (C:AV×AV) (e:MapEntry),I[j]? = some C→es.toList[j]? = some e→VR g C.1 e.key∧VR g C.2 e.val:=fun j C e a b=>L j C e a (by simpa using b)
   have Z:=(BG.1 R).1
   have A:∀(o:Obj) (k:Nat),k≠l.cZ→(w.heap.setIfInBounds l.cZ o)[k]? = w.heap[k]? := by
     grind
   have B:∀ o:Obj,(w.heap.setIfInBounds l.cZ o)[l.cZ]? = some o:=by
     grind
   split at h<;>try (simp at h;done)
   · rename_i i v0 f hf
     simp only[aS] at f
     simp only[bj] at h;subst h
     obtain⟨q,V,M⟩:=rz H hf (by simpa using G) J
     cases q with
     | none=>exact M.elim
     | some X=>
       obtain⟨j', y'⟩:=X
       obtain⟨rfl,a2,a3,a4,C,e,a5,a6,a7⟩:=M
       simp only[Nat.sub_zero] at a5 a6
       have u:es[i]? = some e:=by simpa using a6
       have F:=U2 a7 H (L i C e a5 u).1
       refine⟨{ w with heap:=w.heap.setIfInBounds l.cZ (.map (es.modify i fun e=>{ e with key:=y,val:=z }) ck) },?_,?_⟩
       · simp only[Instr.mapUpdate,Sem.run_bind,ah hu,Result.andThen_ok,getObj,Sem.run,R,run_checkKey K f.1,run_findKey K V,u,lP,vv,Instr.keyThatStays,F,if_true,Sem.run_pure,setObj]
       · refine hi.jr N (gw f.2) O (by simp) (B _) (A _) rfl ⟨rfl,bG _⟩ rfl ⟨_,ck,rfl,by simp[G],?_,by simpa using T,fun j D c=>by
           rw[Fl] at c
           by_cases s:i=j
           · subst s
             rw[if_pos rfl,u] at c
             simp only[lP,bj] at c
             subst c;exact U i e u
           · rw[if_neg s] at c
             exact U j D c⟩
         intro j E D p c
         rw[Fl] at c
         rw[List.getElem?_set] at p
         by_cases s:i=j
         · subst s
           rw[if_pos rfl,u] at c
           rw[if_pos rfl,if_pos (by omega)] at p
           simp only[lP,bj] at p c
           subst p;subst c;exact⟨H,W⟩
         · rw[if_neg s] at p c
           exact L j E D p c
   · rename_i f hf
     simp only[aS] at f
     simp only[bj] at h;subst h
     obtain⟨q,V,M⟩:=rz H hf (by simpa using G) J
     cases q with
     | some X=>exact M.elim
     | none=>
       refine⟨{ w with heap:=w.heap.setIfInBounds l.cZ (.map (es.push { key:=y,val:=z,born:=ck }) (ck+1)) },?_,?_⟩
       · simp only[Instr.mapUpdate,Sem.run_bind,ah hu,Result.andThen_ok,getObj,Sem.run,R,run_checkKey K f.1,run_findKey K V,setObj]
       · refine hi.jr N (gw f.2) O (by simp) (B _) (A _) rfl ⟨rfl,bG _⟩ rfl ⟨_,ck+1,rfl,by simp[G],?_,by simp[T],fun j D c=>by
           rw[Array.getElem?_push] at c
           by_cases s:j=es.size
           · subst s
             rw[if_pos rfl] at c
             simp only[bj] at c
             subst c;exact T
           · rw[if_neg s] at c
             exact U j D c⟩
         intro j E D p c
         rw[Array.getElem?_push] at c
         by_cases s:j=es.size
         · subst s
           rw[if_pos rfl] at c
           rw[G,zj (bG _)] at p
           simp at p c
           subst p;subst c;exact⟨H,W⟩
         · rw[if_neg s] at c
           have:j<I.length:=by rw[←G];exact(BG.1 c).1
           rw[BX this] at p
           exact L j E D p c
def yb (S:ag):Option (AV×ag):=
 match Nat.ble (S.nx+1) 8192&&Nat.ble S.lim S.nx with
 | true=>some (.cQ S.nx,S.add (.mp []))
 | false=>none
theorem DQ (hi:Inv S g w)(h:yb S=some (r,S')) :
  ∃ z w' g', (Instr.makeMap t none).run P w=.ok z w' ∧ VR g' r z∧Inv S' g' w' ∧ Ext S g w S' g' w' := by
 unfold yb at h
 split at h<;>simp only[bj,nj,reduceCtorEq] at h
 rename_i hb
 obtain⟨rfl,rfl⟩:=h
 simp only[aS] at hb
 have c2:=gw hb.1
 have c3:=gw hb.2
 obtain⟨c,q2⟩:=hi.alloc (w' := w.alloc (.map #[] 0)) (by omega) (o:=.mp []) (ob:=.map #[] 0) (l:=⟨w.heap.size,0,0,0⟩) rfl ⟨#[],0,rfl,rfl,by simp,rfl,by simp⟩ rfl rfl ⟨rfl,bG _⟩ rfl c3
 exact⟨.map (some w.heap.size),_,_,by simp[Instr.makeMap],VR.cQ (l:=⟨w.heap.size,0,0,0⟩) (Gh.add_same _ _ _),c,q2⟩
def xS (P:Program)(S:ag)(t:TypeId)(x:AV):Option (AV×ag):=
 match P.underlying t,x with
 | some .string,.sc (.string s)=>match Nat.ble (S.nx+1) 8192&&Nat.ble S.lim S.nx with
   | true=>some (.ptr S.nx 0 0,S.add (.si s 0))
   | false=>none
 | some (.map _ _),.sc (.map none)=>match Nat.ble (S.nx+1) 8192&&Nat.ble S.lim S.nx with
   | true=>some (.ptr S.nx 0 0,S.add .mz)
   | false=>none
 | some (.map _ _),.cQ id=>match S.get id,Nat.ble (S.nx+1) 8192&&Nat.ble S.lim S.nx with
   | some (.mp c),true=>some (.ptr S.nx 0 0,S.add (.mi id c.length []))
   | _,_=>none
 | _,_=>none
theorem Hr (hi:Inv S g w){x:AV}(h:xS P S t x=some (r,S'))(e:VR g x y) :
   ∃ z w' g', (Instr.range t y).run P w=.ok z w' ∧ VR g' r z∧Inv S' g' w' ∧ Ext S g w S' g' w' := by
 unfold xS at h
 split at h<;>try (simp at h;done)
 · rename_i s hu
   split at h<;>simp only[bj,nj,reduceCtorEq] at h
   rename_i hb
   obtain⟨rfl,rfl⟩:=h
   simp only[aS] at hb
   have c2:=gw hb.1
   have c3:=gw hb.2
   cases e with | sc _=>?_
   obtain⟨c,q2⟩:=hi.alloc (w' := w.alloc (.stringIter s 0)) (by omega) (o:=.si s 0) (ob:=.stringIter s 0) (l:=⟨w.heap.size,0,0,0⟩) rfl ⟨rfl,rfl⟩ rfl rfl ⟨rfl,bG _⟩ rfl c3
   exact⟨.pointer (some ⟨w.heap.size,0,none⟩),_,_,by simp[Instr.range,ah hu],by simpa using VR.ptr (i:=0) (j:=0) (l:=⟨w.heap.size,0,0,0⟩) (Gh.add_same g S.nx _),c,q2⟩
 · rename_i hu
   split at h<;>simp only[bj,nj,reduceCtorEq] at h
   rename_i hb
   obtain⟨rfl,rfl⟩:=h
   simp only[aS] at hb
   have c2:=gw hb.1
   have c3:=gw hb.2
   cases e with | sc _=>?_
   obtain⟨c,q2⟩:=hi.alloc (w' := w.alloc (.mapIter none 0 #[] 0)) (by omega) (o:=.mz) (ob:=.mapIter none 0 #[] 0) (l:=⟨w.heap.size,0,0,0⟩) rfl ⟨0,#[],0,rfl,rfl⟩ rfl rfl ⟨rfl,bG _⟩ rfl c3
   exact⟨.pointer (some ⟨w.heap.size,0,none⟩),_,_,by simp[Instr.range,ah hu],by simpa using VR.ptr (i:=0) (j:=0) (l:=⟨w.heap.size,0,0,0⟩) (Gh.add_same g S.nx _),c,q2⟩
 · rename_i id hu
   split at h<;>simp only[bj,nj,reduceCtorEq] at h
   rename_i p u hb
   obtain⟨rfl,rfl⟩:=h
   simp only[aS] at hb
   have c2:=gw hb.1
   have c3:=gw hb.2
   cases e with | cQ q=>?_
   rename_i lm
   obtain⟨l', f,a2,a3⟩:=hi.ob _ _ u
   rw[q] at f;simp only[bj] at f;subst f
   obtain⟨es,ck,v,A,C,B,D⟩:=a3
   obtain⟨c,q2⟩:=hi.alloc (w' := w.alloc (.mapIter (some lm.cZ) ck #[] ck)) (by omega) (o:=.mi id p.length []) (ob:=.mapIter (some lm.cZ) ck #[] ck) (l:=⟨w.heap.size,0,0,0⟩) rfl ⟨lm,q,by rw[B,A],rfl⟩ rfl rfl ⟨rfl,bG _⟩ rfl c3
   exact⟨.pointer (some ⟨w.heap.size,0,none⟩),_,_,by simp[Instr.range,ah hu,getObj,Sem.run,v],by simpa using VR.ptr (i:=0) (j:=0) (l:=⟨w.heap.size,0,0,0⟩) (Gh.add_same g S.nx _),c,q2⟩
def zp (S:ag)(it:AV)(isString:Bool):Option (AV×ag):=
 match it,isString with
 | .ptr id 0 0,true=>match S.get id with
   | some (.si s p)=>match Nat.ble (p+1) s.size,Nat.ble S.lim id with
     | true,true=>some (.bO [.sc (.bool true),.sc (.int .i64 p),.sc (.int .i32 (Utf8.decode s p).1)],S.set id (.si s (p+(Utf8.decode s p).2)))
     | false,_=>some (.bO [.sc (.bool false)],S)
     | _,_=>none
   | _=>none
 | _,_=>none
theorem hJ.three {c:AV}(h:VR g a x)(f:VR g b y)(e:VR g c z):hJ g [a,b,c] #[x,y,z]:=hJ.cons (xs:=[y,z]) h (hJ.two f e)
variable {it : AV}
theorem J6 (hi:Inv S g w){b:Bool}(h:zp S it b=some (r,S'))(o:VR g it x) :
   ∃ z w', (Instr.next x b t).run P w=.ok z w' ∧ VR g r z∧Inv S' g w' ∧ Ext S g w S' g w' := by
 unfold zp at h
 split at h<;>try (simp at h;done)
 rename_i id
 split at h<;>try (simp at h;done)
 rename_i s p i
 cases o with
 | ptr j=>
   rename_i l
   obtain⟨l', e,q2,q3⟩:=hi.ob _ _ i
   rw[j] at e;simp only[bj] at e;subst e
   obtain⟨q3,c⟩:w.heap[l.cZ]? = some (.stringIter s p)∧l.base=0:=q3
   have f:=(BG.1 q3).1
   have q:l.base+0*l.sz+0=0:=by rw[c];simp
   rw[q]
   split at h<;>simp only[bj,nj,reduceCtorEq] at h
   · rename_i h1 h2
     have h1:=gw h1
     have h2:=gw h2
     obtain⟨rfl,rfl⟩:=h
     have h3:hJ g [.sc (.bool true),.sc (.int .i64 p),.sc (.int .i32 (Utf8.decode s p).1)] #[.bool true,.int .i64 p,.int .i32 (Utf8.decode s p).1]:=hJ.three (.sc rfl) (.sc rfl) (.sc rfl)
     refine⟨_,{ w with heap:=w.heap.setIfInBounds l.cZ (.stringIter s (p+(Utf8.decode s p).2)) },?_,.bO h3.1 h3.2,?_⟩
     · simp only[Instr.next,Sem.run_bind,Result.andThen_ok,getObj,Sem.run,q3]
       rw[if_pos (by omega)]
       simp[setObj,Sem.run,q3,goInt]
     · refine hi.jr i h2 j (by simp) ?_ ?_ rfl ⟨rfl,bG _⟩ rfl ⟨rfl,c⟩
       · show(w.heap.setIfInBounds l.cZ _)[l.cZ]? = _
         rw[sj,if_pos rfl,if_pos f]
       · intro k u
         show(w.heap.setIfInBounds l.cZ _)[k]? = _
         rw[sj,if_neg (Ne.symm u)]
   · rename_i h1
     have h1:¬ p<s.size:=by intro v;rw[GY v] at h1;simp at h1
     obtain⟨rfl,rfl⟩:=h
     refine⟨.tuple #[.bool false],w,?_,.bO (hJ.cons (xs:=[]) (g:=g) (a:=.sc (.bool false)) (.sc rfl) (hJ.nil g)).1 (hJ.cons (xs:=[]) (g:=g) (a:=.sc (.bool false)) (.sc rfl) (hJ.nil g)).2,hi,Ext.refl _ _ _⟩
     simp only[Instr.next,Sem.run_bind,Result.andThen_ok,getObj,Sem.run,q3]
     rw[if_neg h1]
     simp
def ae4 (i:Nat):List Nat→Bool
 | []=>false
 | j::r=>match Nat.beq i j with
   | true=>true
   | false=>ae4 i r
def kI (seen:List Nat):List (AV×AV)→Nat→List (Nat×AV×AV)
 | [],_=>[]
 | (k,v)::r,i=>match ae4 i seen with
   | true=>kI seen r (i+1)
   | false=>(i,k,v)::kI seen r (i+1)
def Fb (S:ag)(id m since:Nat)(seen:List Nat):List (Nat×AV×AV)→List (AV×ag)
 | []=>[]
 | (i,k,v)::r=>(.bO [.sc (.bool true),k,v],S.set id (.mi m since (seen++[i])))::Fb S id m since seen r
def Lt (S:ag)(id m since:Nat)(seen:List Nat):List (Nat×AV×AV)→List (AV×ag)
 | []=>[(.bO [.sc (.bool false)],S)]
 | l=>Fb S id m since seen l
def Fc (S:ag)(it:AV):Option (List (AV×ag)):=
 match it with
 | .ptr id 0 0=>match S.get id with
   | some .mz=>some [(.bO [.sc (.bool false)],S)]
   | some (.mi m since seen)=>match S.get m with
     | some (.mp c)=>match Nat.beq since c.length,Nat.ble S.lim id with
       | true,true=>some (Lt S id m since seen (kI seen c 0))
       | _,_=>none
     | _=>none
   | _=>none
 | _=>none
theorem Ev {i:Nat}:∀ {l:List Nat},ae4 i l=true↔i∈l:=by
 intro l
 induction l with
 | nil=>simp[ae4]
 | cons j r c=>
   simp only[ae4,dE]
   cases hb:Nat.beq i j with
   | true=>simp_all
   | false=>
     have:i≠j:=by rintro rfl;simp_all
     simp[this,c]
variable {seen : List Nat}
theorem FR : ∀ {c:List (AV×AV)} {n i:Nat} {k v:AV},(i,k,v)∈kI seen c n↔n≤i∧c[i-n]? = some (k,v)∧i∉seen:=by
 intro c
 induction c with
 | nil=>intro n i k v;simp[kI]
 | cons h r j=>
   obtain⟨a,b⟩:=h
   intro n i k v
   have f:((n+1≤i∧r[i-(n+1)]? = some (k,v)∧i∉seen)∨(i=n∧a=k∧b=v∧n∉seen))↔(n≤i∧((a,b)::r)[i-n]? = some (k,v)∧i∉seen):=by
     grind
   rw[←f]
   simp only[kI]
   cases hb:ae4 n seen with
   | true=>
     grind[Ev]
   | false=>
     have hs:n∉seen:=fun e=>by rw[Ev.2 e] at hb;simp at hb
     simp only[dE,nj,j]
     constructor
     · rintro(⟨rfl,rfl,rfl⟩ | q)
       · exact .inr ⟨rfl,rfl,rfl,hs⟩
       · exact .inl q
     · rintro(q | ⟨rfl,rfl,rfl,_⟩)
       · exact .inr q
       · exact .inl ⟨rfl,rfl,rfl⟩
theorem U3 {id m since:Nat}:∀ {l:List (Nat×AV×AV)} {i:Nat} {k v:AV},(i,k,v)∈l→(AV.bO [.sc (.bool true),k,v],S.set id (.mi m since (seen++[i])))∈Fb S id m since seen l:=by
 intro l
 induction l with
 | nil=>grind
 | cons p r c=>
   obtain⟨j,a,b⟩:=p
   intro i k v h
   rcases dE.1 h with e | h
   · simp only[nj] at e
     obtain⟨rfl,rfl,rfl⟩:=e
     exact jU ..
   · exact K5 _ (c h)
theorem Gp (w:World)(e:0<n):∃ c w', (choose (.mapNext n)).run P w=.ok c w' ∧ c<n∧w'.heap=w.heap∧w'.os=w.os∧La w' w∧w'.output=w.output:=by
 by_cases h:n≤1
 · exact⟨0,w,by simp[choose,Sem.run,Question.forced,h],e,rfl,rfl,⟨rfl,bG _⟩,rfl⟩
 · exact⟨w.tape w.drawn (.mapNext n)%n,{ w with drawn:=w.drawn+1 },by simp[choose,Sem.run,Question.forced,h,Question.cut],Nat.mod_lt _ e,rfl,rfl,⟨rfl,xd _⟩,rfl⟩
theorem Mx (hi : Inv S g w) {l : List (AV × ag)} (h : Fc S it = some l) (hv : VR g it x) :
   ∃ r S' z w', (r, S') ∈ l ∧ (Instr.next x false t).run P w = .ok z w' ∧ VR g r z ∧ Inv S' g w' ∧ Ext S g w S' g w' := by
 have D : hJ g [.sc (.bool false)] #[.bool false] := hJ.cons (xs := []) (.sc rfl) (hJ.nil g)
 unfold Fc at h
 split at h <;> try (simp at h; done)
 rename_i id
 cases hv with | ptr hl => ?_
 rename_i lo
 split at h <;> try (simp at h; done)
 · rename_i Z
   simp only [bj] at h; subst h
   obtain ⟨l', H, q2, q3⟩ := hi.ob _ _ Z
   rw [hl] at H; simp only [bj] at H; subst H
   obtain ⟨a, b, c, q3, E⟩ := q3
   refine ⟨_, _, .tuple #[.bool false], w, jU .., ?_, .bO D.1 D.2, hi, Ext.refl _ _ _⟩
   rw [show lo.base + 0 * lo.sz + 0 = 0 from by rw [E]; simp]
   simp [Instr.next, getObj, Sem.run, q3]
 · rename_i m since seen Z
   split at h <;> try (simp at h; done)
   rename_i f hgm
   split at h <;> simp only [bj, reduceCtorEq] at h
   rename_i hs u
   have hs := oR hs
   have u := gw u
   subst h
   obtain ⟨l', H, q2, q3⟩ := hi.ob _ _ Z
   rw [hl] at H; simp only [bj] at H; subst H
   obtain ⟨lm, m1, m2, E⟩ := q3
   obtain ⟨l', n1, n2, n3⟩ := hi.ob _ _ hgm
   rw [m1] at n1; simp only [bj] at n1; subst n1
   obtain ⟨es, ck, p1, p2, p3, p4, L⟩ := n3
   have hlt := (BG.1 m2).1
   rw [show lo.base + 0 * lo.sz + 0 = 0 from by rw [E]; simp]
   have K : (!seen.toArray.isEmpty && !es.isEmpty && es.all fun e => decide (e.born ≥ since)) = false := by
     rw [pg]
     intro C
     simp only [aS, xg] at C
     obtain ⟨⟨_, c2⟩, c3⟩ := C
     have F : 0 < es.size := by
       rcases Nat.eq_zero_or_pos es.size with e | e
       · simp [Array.isEmpty, e] at c2
       · exact e
     have := (Array.all_eq_true.1 c3) 0 F
     simp only [ge_iff_le, decide_eq_true_eq] at this
     have hb := L 0 es[0] (Ab F)
     omega
   obtain ⟨left, q⟩ : ∃ x, x = es.filter fun e => !seen.toArray.contains e.born := ⟨_, rfl⟩
   have I : ∀ e, e ∈ left → ∃ i, es[i]? = some e ∧ i ∉ seen := by
     intro e p
     rw [q, Array.mem_filter] at p
     obtain ⟨i, hi', he'⟩ := Array.mem_iff_getElem.1 p.1
     have B : es[i]? = some e := by rw [Ab hi', he']
     refine ⟨i, B, fun C => ?_⟩
     have := p.2
     rw [L i e B] at this
     simp [C] at this
   have Q : ∀ i e, es[i]? = some e → i ∉ seen → e ∈ left := by
     intro i e p hn
     rw [q, Array.mem_filter]
     refine ⟨Array.mem_of_getElem? p, ?_⟩
     rw [L i e p]
     simp [hn]
   have R : left.filter (fun e => decide (e.born < since)) = left := by
     rw [Array.filter_eq_self]
     intro e p
     obtain ⟨i, h1, _⟩ := I e p
     have := (BG.1 h1).1
     rw [L i e h1]
     simp only [decide_eq_true_eq]; omega
   have T : left.filter (fun e => decide (e.born ≥ since)) = #[] := by
     rw [Array.filter_eq_empty_iff]
     intro e p
     obtain ⟨i, h1, _⟩ := I e p
     have := (BG.1 h1).1
     rw [L i e h1]
     simp only [decide_eq_true_eq]; omega
   obtain ⟨j, o⟩ : ∃ x, x = (if left.isEmpty then #[none] else #[]) ++ (left ++ #[]).map some := ⟨_, rfl⟩
   have hsz : 0 < j.size := by
     rw [o]
     cases p : left.isEmpty with
     | true => simp; omega
     | false =>
       have : left.size ≠ 0 := by intro e; simp [Array.isEmpty, e] at p
       simp; omega
   obtain ⟨c, w1, r1, r2, r3, r4, r5, r6⟩ := Gp (P := P) w hsz
   have U : (Instr.next (.pointer (some ⟨lo.cZ, 0, none⟩)) false t).run P w = (match j[c]? with
       | some (some e) => (do setObj lo.cZ (.mapIter (some lm.cZ) since (seen.toArray.push e.born) ck); pure (.tuple #[.bool true, e.key, e.val]) : Sem Value)
       | some none => pure (.tuple #[.bool false])
       | none => stuck "Next: no such candidate").run P w1 := by
     simp only [Instr.next, Sem.run_bind, getObj, Sem.run, m2, Result.andThen_ok, p1, K, dK, if_false, ← q, R, T, ← o, r1]
     rfl
   rw [U]
   have M : Inv S g w1 := hi.world r3
   have N : Ext S g w S g w1 := Ext.world r3 r4 r5 r6
   have G : j[c]? = some j[c] := Ab r2
   cases C : j[c] with
   | none =>
     rw [G, C]
     have V : left.isEmpty = true := by
       cases p : left.isEmpty with
       | true => rfl
       | false =>
         exfalso
         rw [p] at o
         have s : (none : Option MapEntry) ∈ j := by rw [← C]; exact Array.getElem_mem _
         rw [o] at s
         simp at s
     have hlk : kI seen f 0 = [] := by
       rw [List.eq_nil_iff_forall_not_mem]
       rintro ⟨i, k, v⟩ s
       obtain ⟨_, a, b⟩ := FR.1 s
       simp only [Nat.sub_zero] at a
       have W : i < es.size := by rw [p2]; exact (mC.1 a).1
       have := Q i es[i] (Ab W) b
       have J : left = #[] := by simpa using V
       rw [J] at this
       simp at this
     refine ⟨.bO [.sc (.bool false)], S, .tuple #[.bool false], w1, ?_, by simp, .bO D.1 D.2, M, N⟩
     rw [hlk]; exact jU ..
   | some e =>
     rw [G, C]
     have s : e ∈ left := by
       have s : some e ∈ j := by rw [← C]; exact Array.getElem_mem _
       rw [o] at s
       cases p : left.isEmpty with
       | true =>
         rw [p] at s
         have J : left = #[] := by simpa using p
         rw [J] at s
         simp at s
       | false => rw [p] at s; simpa using s
     obtain ⟨i, h1, h2⟩ := I e s
     have X : i < f.length := by rw [← p2]; exact (BG.1 h1).1
     have O : f[i]? = some f[i] := qB X
     obtain ⟨v1, v2⟩ := p3 i _ e O h1
     have A : (i, f[i].1, f[i].2) ∈ kI seen f 0 := FR.2 ⟨bW _, by rw [Nat.sub_zero]; exact O, h2⟩
     have Y : lo.cZ < w1.heap.size := by rw [r3]; exact hlt
     have h3 : hJ g [.sc (.bool true), f[i].1, f[i].2] #[.bool true, e.key, e.val] := hJ.three (.sc rfl) v1 v2
     have hb := L i e h1
     obtain ⟨u1, u2⟩ := M.jr (w' := { w1 with heap := w1.heap.setIfInBounds lo.cZ (.mapIter (some lm.cZ) since (seen.toArray.push e.born) ck) }) (ob' := .mapIter (some lm.cZ) since (seen.toArray.push e.born) ck) (o' := .mi m since (seen ++ [i])) Z u hl (by simp)
       (by show (w1.heap.setIfInBounds lo.cZ _)[lo.cZ]? = _; rw [sj, if_pos rfl, if_pos Y])
       (by intro k hk; show (w1.heap.setIfInBounds lo.cZ _)[k]? = _; rw [sj, if_neg (Ne.symm hk)]) rfl ⟨rfl, bG _⟩ rfl
       ⟨lm, m1, by rw [hb, p4, p2, ← hs]; simp, E⟩
     refine ⟨_, _, .tuple #[.bool true, e.key, e.val], _, ?_, ?_, .bO h3.1 h3.2, u1, N.trans u2⟩
     · have : Lt S id m since seen (kI seen f 0) = Fb S id m since seen (kI seen f 0) := by
         cases hq : kI seen f 0 with
         | nil => rw [hq] at A; simp at A
         | cons a b => rfl
       rw [this]
       exact U3 A
     · simp [setObj, Sem.run, show w1.heap[lo.cZ]? = some (Obj.mapIter (some lm.cZ) since seen.toArray since) from by rw [r3]; exact m2]
def Lu : List Nat→Option Nat
 | []=>none
 | [i]=>some i
 | _::r=>Lu r
def xT (S:ag)(it:AV):Option AV:=
 match it with
 | .ptr id 0 0=>match S.get id with
   | some (.mi m since seen)=>match S.get m,Lu seen with
     | some (.mp c),some i=>match Nat.beq since c.length,nth c i with
       | true,some (k,v)=>some (.bO [k,v])
       | _,_=>none
     | _,_=>none
   | _=>none
 | _=>none
theorem OV : ∀ {l:List Nat} {i:Nat},Lu l=some i→l.toArray.back? = some i:=by
 intro l
 induction l<;>grind[Lu,Option.some.injEq,List.back?_toArray,List.getLast?_cons_cons]
theorem Hs (hi:Inv S g w)(h:xT S it=some r)(D:VR g it x):∃ z,(Instr.entry x).run P w=.ok z w∧VR g r z:=by
 unfold xT at h
 split at h<;>try (simp at h;done)
 rename_i id
 cases D with | ptr E=>?_
 rename_i lo
 split at h<;>try (simp at h;done)
 rename_i m since seen F
 split at h<;>try (simp at h;done)
 rename_i Q i u c
 split at h<;>simp only[bj,reduceCtorEq] at h
 rename_i k v hs C
 have hs:=oR hs
 rw[j4] at C
 subst h
 obtain⟨l', q,q2,q3⟩:=hi.ob _ _ F
 rw[E] at q;simp only[bj] at q;subst q
 obtain⟨lm,G,H,A⟩:=q3
 obtain⟨l', s,T,I⟩:=hi.ob _ _ u
 rw[G] at s;simp only[bj] at s;subst s
 obtain⟨es,ck,J,U,K,V,L⟩:=I
 have p:i<es.size:=by grind
 have B:=Ab p
 obtain⟨M,N⟩:=K i _ _ C B
 have f:es.find? (fun e=>e.born==i)=some es[i]:=by
  cases hf:es.find? (fun e=>e.born==i) with
  | none=>
    grind
  | some e=>
    have h1:=Array.find?_some hf
    have h2:=Array.mem_of_find?_eq_some hf
    obtain⟨j,O,o⟩:=Array.mem_iff_getElem.1 h2
    have:=L j e (by rw[Ab O,o])
    have R:e.born=i:=by simpa using h1
    have:j=i:=by omega
    subst this
    rw[o]
 have h2:=hJ.two M N
 refine⟨.tuple #[es[i].key,es[i].val],?_,.bO h2.1 h2.2⟩
 rw[show lo.base+0*lo.sz+0=0 from by rw[A];simp]
 simp only[Instr.entry,Sem.run_bind,getObj,Sem.run,H,Result.andThen_ok,OV c,J,f]
 simp_all
def AE (P:Program)(t:TypeId)(x:AV)(ok:Bool):Option AV:=
 match P.underlying t with
 | some (.interface _)=>none
 | some _=>match x,ok with
   | .eu u v,true=>if u=t then some (.bO [v,.sc (.bool true)]) else
     match iW P t with
     | some z=>some (.bO [z,.sc (.bool false)])
     | none=>none
   | .eu u v,false=>if u=t then some v else none
   | .sc .nilIface,true=>match iW P t with
     | some z=>some (.bO [z,.sc (.bool false)])
     | none=>none
   | _,_=>none
 | none=>none
theorem Gq {xt : TypeId} {x : AV} (h : AE P t x ok = some r) (c : VR g x y) : ∃ z, (Instr.typeAssert y xt t ok).run P w = .ok z w ∧ VR g r z := by
 unfold AE at h
 split at h <;> try (simp at h; done)
 rename_i d q hu
 have key : ∀ u v, (Instr.typeAssert (.iface u v) xt t ok).run P w = (if u = t then (pure (if ok then .tuple #[v, .bool true] else v) : Sem Value) else
     (if ok then do pure (.tuple #[← zeroValue t, .bool false]) else runtimePanic (.typeAssertion (some xt) (some u) t ""))).run P w := by
   intro u v
   cases d <;> first | exact (q _ rfl).elim | simp [Instr.typeAssert, ah hu]
 have j : ok = true → (Instr.typeAssert .nilIface xt t ok).run P w = (do pure (.tuple #[← zeroValue t, .bool false]) : Sem Value).run P w := by
   intro p; subst p
   cases d <;> first | exact (q _ rfl).elim | simp [Instr.typeAssert, ah hu]
 split at h <;> try (simp at h; done)
 · rename_i u v
   cases c with
   | eu c =>
     split at h
     · rename_i i
       simp only [bj] at h; subst h; subst i
       exact ⟨_, by rw [key]; simp, VR.two c (.sc rfl)⟩
     · rename_i i
       split at h <;> simp only [bj, reduceCtorEq] at h
       rename_i z o
       subst h
       obtain ⟨s, e, f⟩ := jF (P := P) (w := w) (g := g) o
       exact ⟨_, by rw [key]; simp [i, e], VR.two f (.sc rfl)⟩
 · rename_i u v
   cases c with
   | eu c =>
     split at h <;> simp only [bj, reduceCtorEq] at h
     rename_i i
     subst h; subst i
     exact ⟨_, by rw [key]; simp, c⟩
 · split at h <;> simp only [bj, reduceCtorEq] at h
   rename_i z o
   subst h
   obtain ⟨s, e, f⟩ := jF (P := P) (w := w) (g := g) o
   cases c with | sc _ => exact ⟨_, by rw [j rfl]; simp [e], VR.two f (.sc rfl)⟩
end
end Go.Eng

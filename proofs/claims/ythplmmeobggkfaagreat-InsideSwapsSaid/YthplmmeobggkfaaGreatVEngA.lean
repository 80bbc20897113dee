/- Abstract values and stores, their meaning, and the operations on them; no conditions. -/
import Derived.Recover
import Derived.Laws.Sem
import Derived.Laws.World
import Derived.Laws.StructEq
import Derived.Laws.BitsLemmas
set_option linter.all false
namespace Go.Eng
noncomputable section
abbrev FA := @List.mem_of_mem_drop
abbrev xk := @Nat.le_succ
abbrev Fw := @Array.getElem?_modify
abbrev xj := @Nat.add_zero
abbrev Jv := @Array.getElem?_append_left
abbrev Fv := @Array.getElem?_extract
abbrev B7 := @Array.toList_append
abbrev xl := @Bool.or_eq_true
abbrev zz := @List.ext_getElem?
abbrev JC := @List.getElem?_inj
abbrev Jz := @List.take_of_length_le
abbrev Oh := @List.length_nil
abbrev xn := @Bool.not_eq_true'
abbrev vG := @List.count_eq_zero
abbrev sH := @List.map_nil
abbrev mM := @Nat.succ_mul
abbrev uu := @Nat.zero_add
abbrev rj := @List.nodup_cons
abbrev xq := @List.length_eq_zero_iff
abbrev xh := @Array.length_toList
abbrev uq := @List.mem_of_mem_take
abbrev Ck := @List.take_succ_eq_append_getElem
abbrev vB := @Array.getElem?_toList
abbrev sx := @List.getElem?_take
abbrev nB := @List.all_cons
abbrev sw := @Bool.eq_false_iff
abbrev xm := @Option.getD_some
abbrev aL50z_ := @List.map_set
abbrev nD := @List.append_nil
abbrev rf := @List.length_map
abbrev zD := @List.cons_append
abbrev FC := @List.singleton_append
abbrev lH := @Nat.le_trans
abbrev ri := @Bool.and_true
abbrev sy := @Int.toNat_natCast
abbrev uv := @List.getElem?_eq_none
abbrev q9 := @List.getElem?_toArray
abbrev B5 := @List.getElem?_append_left
abbrev nv := @List.length_append
abbrev px := @List.mem_singleton
abbrev jT := @Nat.lt_or_ge
abbrev aeo := @List.map_drop
abbrev su := @List.getElem?_drop
abbrev mJ := @Nat.lt_of_lt_of_le
abbrev fV := @Nat.add_mul
abbrev iB := @List.mem_map
abbrev nu := @List.append_assoc
abbrev vD := @Nat.beq_refl
abbrev q8 := @List.getElem?_cons_succ
abbrev asJ := @List.map_take
abbrev j9 := @Option.map_some
abbrev pw := @List.getElem?_map
abbrev iC := @Bool.true_and
abbrev ur := @List.getElem?_cons_zero
abbrev vA := @List.eq_nil_of_length_eq_zero
abbrev asK := @List.map_replicate
abbrev B6 := @List.getElem?_append_right
abbrev OB := @List.map_append
abbrev lI := @List.length_cons
abbrev ny := @Array.getElem?_setIfInBounds
abbrev fy := @List.drop_zero
abbrev jU := @List.nil_append
abbrev oc := @Array.getD_eq_getD_getElem?
abbrev gM := @List.getElem?_of_mem
abbrev dP := @List.drop_length
abbrev dG := @List.mem_append
abbrev dH := @List.map_cons
abbrev bU := @Nat.zero_le
abbrev jq := @List.mem_cons_self
abbrev cF := @List.mem_cons
abbrev dh := @List.all_eq_true
abbrev dL := @Bool.false_eq_true
abbrev cM := @List.getElem_mem
abbrev bJ := @Nat.le_refl
abbrev cW := @List.drop_eq_getElem_cons
abbrev aY := @Bool.and_eq_true
abbrev aQ := @Option.bind_eq_bind
abbrev ax := @Option.bind_some
abbrev Ak := @Array.getElem?_eq_getElem
abbrev qm := @List.getElem?_eq_getElem
abbrev xY := @Nat.mul_le_mul_right
abbrev uI := @List.mem_of_getElem?
abbrev y7 := @Nat.lt_succ_self
abbrev Ez := @List.mem_cons_of_mem
abbrev y8 := @Array.getElem?_eq_some_iff
abbrev lr := @List.getElem?_eq_some_iff
abbrev EY := @Nat.ble_eq_true_of_le
abbrev lR := @Prod.mk.injEq
abbrev np := @Nat.eq_of_beq_eq_true
abbrev gb := @Nat.le_of_ble_eq_true
abbrev ba := @Option.some.injEq
def Lk : Value→Bool
 | .bool _ | .int _ _ | .string _ | .pointer none | .map none | .nilFunc | .nilIface=>true
 | _=>false
inductive AV where
 | sc (v : Value)
 | agg (cs : List AV)
 | fw
 | an
 | lit (es : List AV)
 | dO (cs : List AV)
 | ptr (id i j : Nat)
 | ai (id off len : Nat)
 | cR (id : Nat)
 | fn (f : Fn) (first cap : List AV)
 | eB (t : TypeId) (v : AV)
 | bO (vs : List AV)
 | sj (id : Nat)
 | clip (v : AV)
 | top
 deriving Inhabited
def AV.cells : AV→List AV
 | .agg cs=>cs
 | v=>[v]
structure Loc where
 cU : Nat
 base : Nat
 sz : Nat
 bz : Nat
structure Gh where
 ro : Nat → Option (Array Value)
 ph : Nat → Option Loc
structure Gh.le (a b : Gh) : Prop where
 ro : ∀ k c, a.ro k = some c → b.ro k = some c
 ph : ∀ k l, a.ph k = some l → b.ph k = some l
theorem Gh.le_refl (a:Gh):Gh.le a a:=⟨fun _ _ h=>h,fun _ _ h=>h⟩
theorem Gh.le_trans {a b c:Gh}(h:Gh.le a b)(k:Gh.le b c):Gh.le a c:=⟨fun i x e=>k.ro i x (h.ro i x e),fun i x e=>k.ph i x (h.ph i x e)⟩
inductive VR (g : Gh) : AV → Value → Prop
 | sc {v : Value} (h : Lk v = true) : VR g (.sc v) v
 | agg {cs : List AV} {xs : Array Value} (hl : cs.length = xs.size) (h : ∀ (k : Nat) (a : AV) (x : Value), cs[k]? = some a → xs[k]? = some x → VR g a x) : VR g (.agg cs) (.agg xs)
 | fw {a : Option Addr} : VR g .fw (.slice a 0 0)
 | an : VR g .an (.slice none 0 0)
 | lit {es : List AV} {b o sz cap : Nat} {c : Array Value} (hr : g.ro b = some c) (hs : ∀ e, e ∈ es → e.cells.length = sz) (hb : o + es.length * sz ≤ c.size) (hcap : es.length ≤ cap)
  (h : ∀ (i j : Nat) (e a : AV) (x : Value), es[i]? = some e → e.cells[j]? = some a → c[o + i * sz + j]? = some x → VR g a x) :
  VR g (.lit es) (.slice (some ⟨b, o, none⟩) es.length cap)
 | jZ {a : Option Addr} {cap : Nat} : VR g (.lit []) (.slice a 0 cap)
 | dO {cs : List AV} {b o : Nat} {c : Array Value} (hr : g.ro b = some c) (hb : o + cs.length ≤ c.size)
  (h : ∀ (j : Nat) (a : AV) (x : Value), cs[j]? = some a → c[o + j]? = some x → VR g a x) : VR g (.dO cs) (.pointer (some ⟨b, o, none⟩))
 | ptr {id i j : Nat} {l : Loc} (hl : g.ph id = some l) : VR g (.ptr id i j) (.pointer (some ⟨l.cU, l.base + i * l.sz + j, none⟩))
 | ai {id off len cap : Nat} {l : Loc} (hl : g.ph id = some l) (hc : len ≤ cap) (hb : l.base + (off + cap) * l.sz = l.bz) :
  VR g (.ai id off len) (.slice (some ⟨l.cU, l.base + off * l.sz, none⟩) len cap)
 | hZ {id off : Nat} {a : Addr} {l : Loc} (hl : g.ph id = some l) (hb : l.base + off * l.sz = l.bz) : VR g (.ai id off 0) (.slice (some a) 0 0)
 | cR {id : Nat} {l : Loc} (hl : g.ph id = some l) : VR g (.cR id) (.map (some l.cU))
 | fn {f : Fn} {first cap : List AV} {xs ys : Array Value} (hx : first.length = xs.size) (hy : cap.length = ys.size)
  (h : ∀ (k : Nat) (a : AV) (x : Value), first[k]? = some a → xs[k]? = some x → VR g a x)
  (h' : ∀ (k : Nat) (a : AV) (x : Value), cap[k]? = some a → ys[k]? = some x → VR g a x) : VR g (.fn f first cap) (.func f xs ys)
 | eB {t : TypeId} {v : AV} {x : Value} (h : VR g v x) : VR g (.eB t v) (.iface t x)
 | bO {vs : List AV} {xs : Array Value} (hl : vs.length = xs.size) (h : ∀ (k : Nat) (a : AV) (x : Value), vs[k]? = some a → xs[k]? = some x → VR g a x) : VR g (.bO vs) (.tuple xs)
 | sj {id : Nat} {l : Loc} (hl : g.ph id = some l) : VR g (.sj id) (.func (.yield l.cU) #[] #[])
 | clip {v : AV} {a : Option Addr} {n c : Nat} (h : VR g v (.slice a n c)) : VR g (.clip v) (.slice a n n)
 | top {x : Value} : VR g .top x
variable {g : Gh} {x : Value}
theorem VR.mono {g' : Gh}(e:Gh.le g g'){v:AV}(h:VR g v x):VR g' v x:=by
 induction h with
 | sc h=>exact .sc h
 | agg c _ d=>exact .agg c d
 | fw=>exact .fw
 | an=>exact .an
 | lit m hs hb f _ d=>exact .lit (e.ro _ _ m) hs hb f d
 | jZ=>exact .jZ
 | dO m hb _ d=>exact .dO (e.ro _ _ m) hb d
 | ptr c=>exact .ptr (e.ph _ _ c)
 | ai c p hb=>exact .ai (e.ph _ _ c) p hb
 | hZ c hb=>exact .hZ (e.ph _ _ c) hb
 | cR c=>exact .cR (e.ph _ _ c)
 | fn hx hy _ _ d n=>exact .fn hx hy d n
 | eB _ d=>exact .eB d
 | bO c _ d=>exact .bO c d
 | sj c=>exact .sj (e.ph _ _ c)
 | clip _ d=>exact .clip d
 | top=>exact .top
def AV.q6 : AV→AV
 | .clip v=>v
 | v=>v
theorem VR.q6 {g:Gh}{v:AV}{x:Value}(h:VR g v x):VR g v.q6 x∨∃ a n c,x=.slice a n n∧VR g v.q6 (.slice a n c):=by
 cases h with
 | clip h=>exact .inr ⟨_,_,_,rfl,h⟩
 | _=>left;first | (constructor<;>assumption) | simp_all
def hM (g:Gh)(l:List AV)(xs:Array Value):Prop:=l.length=xs.size∧∀(k:Nat) (a:AV) (x:Value),l[k]? = some a→xs[k]? = some x→VR g a x
theorem hM.mono {g g' : Gh}(c:Gh.le g g'){l:List AV}{xs:Array Value}(h:hM g l xs):hM g' l xs:=⟨h.1,fun k a x e d=>(h.2 k a x e d).mono c⟩
variable {xs : Array Value} {k : Nat} {a : AV}
theorem hM.get {l:List AV}(h:hM g l xs)(e:l[k]? = some a):∃ x,xs[k]? = some x∧VR g a x:=by
 have d:k<l.length:=(lr.1 e).1
 have c:k<xs.size:=h.1▸d
 have hx:xs[k]? = some xs[k]:=Ak c
 exact⟨_,hx,h.2 k a _ e hx⟩
theorem hM.nil (g:Gh):hM g [] #[]:=⟨rfl,fun k a x e=>by simp at e⟩
theorem hM.cons {l:List AV}{xs:List Value}(h:VR g a x)(t:hM g l xs.toArray):hM g (a::l) (x::xs).toArray:=by
 refine⟨by simpa using t.1,fun k b y e c=>?_⟩
 cases k with
 | zero=>simp_all
 | succ k=>exact t.2 k b y (by simpa using e) (by simpa using c)
theorem hM.append {l m:List AV}{ys:Array Value}(h:hM g l xs)(d:hM g m ys):hM g (l++m) (xs++ys):=by
 refine⟨by simp[h.1,d.1],fun k a x e c=>?_⟩
 by_cases f:k<l.length
 · rw[B5 f] at e
   rw[Jv (h.1▸f)] at c
   exact h.2 k a x e c
 · rw[B6 (by omega)] at e
   rw[Array.getElem?_append_right (by have:=h.1;omega),←h.1] at c
   exact d.2 _ a x e c
theorem hM.drop {g:Gh}{l:List AV}{xs:Array Value}(h:hM g l xs)(n:Nat):hM g (l.drop n) (xs.extract n xs.size):=by
 refine⟨by simp[h.1],fun k a x e c=>?_⟩
 rw[su] at e
 rw[Fv] at c
 split at c
 · exact h.2 _ a x e c
 · simp at c
inductive aO where
 | arr (sz : Nat) (es : List AV)
 | mp (kvs : List (AV × AV))
 | lp (st : LoopState) (pending : Option Code) (fn : FuncId) (n mask : Nat) (env : List (Nat × AV)) (params : List Tmp) (assign body : Code)
 | df (open_ : Bool)
 | si (s : ByteArray) (pos : Nat)
 | mi (m since : Nat) (seen : List Nat)
 | mz
 deriving Inhabited
inductive PT where
 | nil
 | node (o : Option aO) (l r : PT)
 deriving Inhabited
noncomputable def PT.get (_:Nat)(t:PT):Nat→Option aO:=
 PT.rec (motive:=fun _=>Nat→Option aO) (fun _=>none)
  (fun o _ _ c d i=>Bool.rec (motive:=fun _=>Option aO) (Bool.rec (motive:=fun _=>Option aO) (c (i/2)) (d (Nat.pred (i/2))) (Nat.beq (i%2) 0)) o (Nat.beq i 0)) t
noncomputable def PT.Jm (n:Nat):PT→Nat→Option aO→PT:=
 Nat.rec (motive:=fun _=>PT→Nat→Option aO→PT) (fun t _ _=>t)
  (fun _ c t i v=>PT.rec (motive:=fun _=>PT)
   (Bool.rec (motive:=fun _=>PT) (Bool.rec (motive:=fun _=>PT) (.node none (c .nil (i/2) v) .nil) (.node none .nil (c .nil (Nat.pred (i/2)) v)) (Nat.beq (i%2) 0)) (.node v .nil .nil) (Nat.beq i 0))
   (fun o l r _ _=>Bool.rec (motive:=fun _=>PT) (Bool.rec (motive:=fun _=>PT) (.node o (c l (i/2) v) r) (.node o l (c r (Nat.pred (i/2)) v)) (Nat.beq (i%2) 0)) (.node v l r) (Nat.beq i 0)) t) n
def PT.set (_:Nat)(t:PT)(i:Nat)(v:Option aO):PT:=PT.Jm (i+1) t i v
theorem PT.get_nil (d i:Nat):PT.get d .nil i=none:=rfl
theorem PT.s8 (d:Nat)(o:Option aO)(l r:PT)(i:Nat):PT.get d (.node o l r) i=if i=0 then o else if i%2=0 then PT.get d r (i/2-1) else PT.get d l (i/2):=by
 have e:PT.get d (.node o l r) i=Bool.rec (motive:=fun _=>Option aO) (Bool.rec (motive:=fun _=>Option aO) (PT.get d l (i/2)) (PT.get d r (Nat.pred (i/2))) (Nat.beq (i%2) 0)) o (Nat.beq i 0):=by
   simp_all[PT.get]
 rw[e]
 by_cases c:i=0
 · subst c;rfl
 · rw[if_neg c,show Nat.beq i 0=false from by simp_all[sw]]
   by_cases h1:i%2=0
   all_goals simp_all[Nat.beq]
def PT.left : PT→PT
 | .nil=>.nil
 | .node _ l _=>l
def PT.right : PT→PT
 | .nil=>.nil
 | .node _ _ r=>r
def PT.top : PT→Option aO
 | .nil=>none
 | .node o _ _=>o
theorem PT.IC (n:Nat)(t:PT)(i:Nat)(v:Option aO):PT.Jm (n+1) t i v=if i=0 then .node v t.left t.right else if i%2=0 then .node t.top t.left (PT.Jm n t.right (i/2-1) v) else .node t.top (PT.Jm n t.left (i/2) v) t.right:=by
 have e:PT.Jm (n+1) t i v=Bool.rec (motive:=fun _=>PT) (Bool.rec (motive:=fun _=>PT) (.node t.top (PT.Jm n t.left (i/2) v) t.right) (.node t.top t.left (PT.Jm n t.right (Nat.pred (i/2)) v)) (Nat.beq (i%2) 0)) (.node v t.left t.right) (Nat.beq i 0):=by
   cases t<;>first
    | rfl
    | simp_all
 rw[e]
 by_cases c:i=0
 · subst c;rfl
 · rw[if_neg c,show Nat.beq i 0=false from by simp_all[sw]]
   by_cases h1:i%2=0
   all_goals simp_all[Nat.beq]
theorem PT.get_eq (d:Nat)(t:PT)(i:Nat):PT.get d t i=if i=0 then t.top else if i%2=0 then PT.get d t.right (i/2-1) else PT.get d t.left (i/2):=by
 cases t<;>simp_all[PT.get_nil,PT.top,PT.left,PT.right,PT.s8]
theorem PT.Hm (d:Nat)(v:Option aO):∀(n:Nat) (t:PT) (i:Nat),i<n→PT.get d (PT.Jm n t i v) i=v:=by
 intro n
 induction n with
 | zero=>intro t i h;omega
 | succ n e=>
   intro t i h
   rw[PT.IC]
   by_cases c:i=0
   · subst c;simp[PT.s8]
   · by_cases h1:i%2=0
     · simp only[if_neg c,if_pos h1,PT.s8];exact e _ _ (by omega)
     · simp only[if_neg c,if_neg h1,PT.s8];exact e _ _ (by omega)
theorem PT.Gu (d:Nat)(v:Option aO):∀(n:Nat) (t:PT) (i j:Nat),i≠j→PT.get d (PT.Jm n t i v) j=PT.get d t j:=by
 intro n
 induction n with
 | zero=>intro t i j h;rfl
 | succ n m=>
   intro t i j h
   rw[PT.IC,PT.get_eq d t j]
   by_cases f:i=0
   · have p:¬ j=0:=by omega
     simp only[if_pos f,PT.s8,if_neg p]
   · by_cases h1:i%2=0
     · simp only[if_neg f,if_pos h1,PT.s8]
       by_cases c:j=0
       · simp[c]
       · by_cases e:j%2=0
         · simp only[if_neg c,if_pos e];exact m _ _ _ (by omega)
         · simp[if_neg c,if_neg e]
     · simp only[if_neg f,if_neg h1,PT.s8]
       by_cases c:j=0
       · simp[c]
       · by_cases e:j%2=0
         · simp[if_neg c,if_pos e]
         · simp only[if_neg c,if_neg e];exact m _ _ _ (by omega)
theorem PT.cQ (d:Nat)(t:PT)(i:Nat)(v:Option aO):PT.get d (PT.set d t i v) i=v:=PT.Hm d v _ t i (by omega)
theorem PT.tN (d:Nat)(t:PT)(i j:Nat)(v:Option aO)(h:i≠j):PT.get d (PT.set d t i v) j=PT.get d t j:=PT.Gu d v _ t i j h
abbrev Ok (i:Nat):Prop:=i<i+1
theorem PT.bt (d:Nat)(t:PT)(i j:Nat)(v:Option aO)(_:Ok i)(_:Ok j)(c:i≠j):PT.get d (PT.set d t i v) j=PT.get d t j:=PT.tN d t i j v c
def dep : Nat:=13
structure ag where
 nx : Nat
 lim : Nat
 m : PT
def ag.get (s:ag)(i:Nat):Option aO:=PT.get dep s.m i
def ag.set (s:ag)(i:Nat)(o:aO):ag:=
 match s with
 | ⟨nx,lim,m⟩=>⟨nx,lim,PT.set dep m i (some o)⟩
def ag.del (s:ag)(i:Nat):ag:=
 match s with
 | ⟨nx,lim,m⟩=>⟨nx,lim,PT.set dep m i none⟩
def ag.add (s:ag)(o:aO):ag:=
 match s with
 | ⟨nx,lim,m⟩=>⟨Nat.succ nx,lim,PT.set dep m nx (some o)⟩
def ag.empty : ag:=⟨0,0,.nil⟩
variable {s : ag} {i : Nat}
theorem ag.rC (h:¬ Ok i):s.get i=none:=by simp_all
theorem ag.cE (_:Ok i):s.get i=PT.get dep s.m i:=rfl
variable {o : aO}
theorem ag.gv (_:s.get i=some o):Ok i:=y7 i
theorem ag.fN (i:Nat):ag.empty.get i=none:=by
 by_cases hi:Ok i
 · rw[ag.cE hi];exact PT.get_nil _ _
 · simp_all
theorem ag.cQ {s:ag}{i:Nat}{o:aO}(h:Ok i):(s.set i o).get i=some o:=by
 rw[ag.cE h];exact PT.cQ _ _ _ _
theorem ag.bt {s:ag}{i j:Nat}{o:aO}(h:Ok i)(d:j≠i):(s.set i o).get j=s.get j:=by
 by_cases c:Ok j
 · rw[ag.cE c,ag.cE c];exact PT.bt _ _ _ _ _ h c (Ne.symm d)
 all_goals simp_all
theorem ag.iK : (s.del i).get i=none:=by
 by_cases h:Ok i
 · rw[ag.cE h];exact PT.cQ _ _ _ _
 · omega
variable {j : Nat}
theorem ag.dM (h:Ok i)(d:j≠i):(s.del i).get j=s.get j:=by
 by_cases c:Ok j
 · rw[ag.cE c,ag.cE c];exact PT.bt _ _ _ _ _ h c (Ne.symm d)
 all_goals simp_all
theorem ag.ow (h:Ok s.nx):(s.add o).get s.nx=some o:=by
 rw[ag.cE h];exact PT.cQ _ _ _ _
theorem ag.eQ (h:Ok s.nx)(d:j≠s.nx):(s.add o).get j=s.get j:=by
 by_cases c:Ok j
 · rw[ag.cE c,ag.cE c];exact PT.bt _ _ _ _ _ h c (Ne.symm d)
 all_goals simp_all
noncomputable def lk (l:List (Nat×AV))(t:Nat):Option AV:=
 List.rec (motive:=fun _=>Option AV) none (fun p _ c=>Bool.rec (motive:=fun _=>Option AV) c (some p.2) (Nat.beq p.1 t)) l
noncomputable def up (l:List (Nat×AV))(t:Nat)(v:AV):List (Nat×AV):=
 List.rec (motive:=fun _=>List (Nat×AV)) [(t,v)] (fun p r c=>Bool.rec (motive:=fun _=>List (Nat×AV)) (p::c) ((p.1,v)::r) (Nat.beq p.1 t)) l
theorem q7 (t:Nat):lk [] t=none:=rfl
theorem iz (k:Nat)(v:AV)(r:List (Nat×AV))(t:Nat):lk ((k,v)::r) t=match Nat.beq k t with
  | true=>some v
  | false=>lk r t:=by
 cases h:Nat.beq k t
 all_goals simp_all[lk]
theorem Of (t:Nat)(v:AV):up [] t v=[(t,v)]:=rfl
theorem JM (k:Nat)(u:AV)(r:List (Nat×AV))(t:Nat)(v:AV):up ((k,u)::r) t v=match Nat.beq k t with
  | true=>(k,v)::r
  | false=>(k,u)::up r t v:=by
 cases h:Nat.beq k t
 all_goals simp_all[up]
theorem vM (l:List (Nat×AV))(t:Nat)(v:AV):lk (up l t v) t=some v:=by
 induction l with
 | nil=>simp[Of,iz]
 | cons a r c=>
   obtain⟨k,u⟩:=a
   simp only[JM]
   cases h:Nat.beq k t<;>simp_all[Nat.beq,true,iz,false]
theorem tO (l:List (Nat×AV)){t s:Nat}(v:AV)(c:s≠t):lk (up l t v) s=lk l s:=by
 induction l with
 | nil=>
   simp only[Of,q7,iz]
   rw[show Nat.beq t s=false from by rw[sw];exact fun e=>c (np e).symm]
 | cons a r d=>
   obtain⟨k,u⟩:=a
   simp only[JM]
   cases h:Nat.beq k t with
   | true=>
     have f:k=t:=np h
     simp only[iz]
     rw[show Nat.beq k s=false from by rw[sw];exact fun e=>c ((np e).symm.trans f)]
   | false=>simp only[iz,d]
def LR (g:Gh)(l:List (Nat×AV))(tmps:Array Value):Prop:=∀(t:Nat) (v:AV),lk l t=some v→∃ x,tmps[t]? = some x∧VR g v x
theorem LR.mono {g g' : Gh}(c:Gh.le g g'){l:List (Nat×AV)}{tmps:Array Value}(h:LR g l tmps):LR g' l tmps:=
 fun t v e=>let ⟨x,hx,d⟩:=h t v e;⟨x,hx,d.mono c⟩
def wX (g:Gh)(l:Loc)(x:Option Obj):aO→Prop
 | .arr sz es=>∃ c t,x=some (.cells c t (0,0))∧c.size=l.bz∧l.sz=sz∧l.base+es.length*sz≤c.size∧(∀ e,e∈es→e.cells.length=sz) ∧
  ∀(i j:Nat) (e a:AV) (y:Value),es[i]? = some e→e.cells[j]? = some a→c[l.base+i*sz+j]? = some y→VR g a y
 | .mp d=>∃ es clock,x=some (.map es clock)∧es.size=d.length ∧
  (∀(k:Nat) (f:AV×AV) (e:MapEntry),d[k]? = some f→es[k]? = some e→VR g f.1 e.key∧VR g f.2 e.val)∧clock=es.size∧∀(k:Nat) (e:MapEntry),es[k]? = some e→e.born=k
 | .lp st pending fn n _ env params assign body=>∃ lo,x=some (.loop lo)∧lo.state=st∧lo.pending=pending∧lo.fn=fn∧lo.tmps.size=n∧LR g env lo.tmps ∧
  lo.params=params.toArray∧lo.assign=assign∧lo.body=body
 | .df o=>x=some (.deferred (if o then some [] else none))
 | .si s p=>x=some (.stringIter s p)∧l.base=0
 | .mi m since seen=>∃ lm,g.ph m=some lm∧x=some (.mapIter (some lm.cU) since seen.toArray since)∧l.base=0
 | .mz=>∃ a b c,x=some (.mapIter none a b c)∧l.base=0
theorem wX.mono {g g' : Gh}(d:Gh.le g g'){l:Loc}{x:Option Obj}{o:aO}(h:wX g l x o):wX g' l x o:=by
 cases o with
 | arr sz es=>
   obtain⟨c,t,h1,h2,h3,h4,f,u⟩:=h
   exact⟨c,t,h1,h2,h3,h4,f,fun i j e a y p q r=>(u i j e a y p q r).mono d⟩
 | mp E=>
   obtain⟨es,k,h1,h2,h3,h4⟩:=h
   exact⟨es,k,h1,h2,fun i v e p q=>⟨(h3 i v e p q).1.mono d,(h3 i v e p q).2.mono d⟩,h4⟩
 | lp st pending fn n mk env params assign body=>
   obtain⟨lo,h1,h2,h3,h4,f,u,z,C,D⟩:=h
   exact⟨lo,h1,h2,h3,h4,f,u.mono d,z,C,D⟩
 | df o=>exact h
 | si s p=>exact h
 | mi m since seen=>obtain⟨lm,a,b,c⟩:=h;exact⟨lm,d.ph _ _ a,b,c⟩
 | mz=>exact h
theorem wX.some {g:Gh}{l:Loc}{x:Option Obj}{o:aO}(h:wX g l x o):∃ y,x=some y:=by
 cases o with
 | arr sz es=>obtain⟨c,t,h1,_⟩:=h;exact⟨_,h1⟩
 | mp d=>obtain⟨es,k,h1,_⟩:=h;exact⟨_,h1⟩
 | lp st pending fn n mk env params assign body=>obtain⟨lo,h1,_⟩:=h;exact⟨_,h1⟩
 | df o=>exact⟨_,h⟩
 | si s p=>exact⟨_,h.1⟩
 | mi m since seen=>obtain⟨lm,a,b,c⟩:=h;exact⟨_,b⟩
 | mz=>obtain⟨a,b,c,h,_⟩:=h;exact⟨_,h⟩
structure Inv (S : ag) (g : Gh) (w : World) : Prop where
 ro : ∀ b c, g.ro b = some c → ∃ t fz, w.heap[b]? = some (.cells c t fz)
 ob : ∀ id o, S.get id = some o → ∃ l, g.ph id = some l ∧ g.ro l.cU = none ∧ wX g l w.heap[l.cU]? o
 inj : ∀ id id' o o' l l', S.get id = some o → S.get id' = some o' → g.ph id = some l → g.ph id' = some l' → l.cU = l'.cU → id = id'
 fresh : ∀ id, S.nx ≤ id → g.ph id = none
abbrev Lg (w' w:World):Prop:=w'.tape=w.tape∧w.drawn≤w'.drawn
theorem Lg.trans {a b c:World}(h:Lg a b)(k:Lg b c):Lg a c:=⟨h.1.trans k.1,lH k.2 h.2⟩
structure Ext (S : ag) (g : Gh) (w : World) (S' : ag) (g' : Gh) (w' : World) : Prop where
 size : w.heap.size ≤ w'.heap.size
 os : w'.os = w.os
 tape : Lg w' w
 output : w'.output = w.output
 jr : ∀ b, b < w.heap.size → (∀ id o l, S.get id = some o → S.lim ≤ id → g.ph id = some l → l.cU ≠ b) → w'.heap[b]? = w.heap[b]?
 own : ∀ id o l, S'.get id = some o → S.lim ≤ id → g'.ph id = some l → l.cU < w.heap.size → ∃ id0 o0 l0, S.get id0 = some o0 ∧ S.lim ≤ id0 ∧ g.ph id0 = some l0 ∧ l0.cU = l.cU
 pc : Gh.le g g'
 nx : S.nx ≤ S'.nx
 lim : S'.lim = S.lim
 w6 : ∀ id, id < S.lim → S'.get id = S.get id
 wY : ∀ id, id < S.nx → g'.ph id = g.ph id
 C2 : ∀ b c, g'.ro b = some c → b < w.heap.size → g.ro b = some c ∨ ∃ id0 o0 l0, S.get id0 = some o0 ∧ S.lim ≤ id0 ∧ g.ph id0 = some l0 ∧ l0.cU = b
 dead : ∀ id, id < S.nx → S.get id = none → S'.get id = none
 fz : ∀ a, a.block < w.heap.size → w'.frozen? a = w.frozen? a
theorem Ext.refl (S:ag)(g:Gh)(w:World):Ext S g w S g w:=
 ⟨bJ _,rfl,⟨rfl,bJ _⟩,rfl,fun _ _ _=>rfl,fun id o l h h1 h2 _=>⟨id,o,l,h,h1,h2,rfl⟩,Gh.le_refl _,bJ _,rfl,fun _ _=>rfl,fun _ _=>rfl,fun _ _ e _=>.inl e,fun _ _ e=>e,fun _ _=>rfl⟩
def BX : Option Obj→Bool
 | some (.cells _ _ (0,0))=>true
 | some (.cells _ _ _)=>false
 | _=>true
variable {w : World}
theorem Df {a:Addr}(h:BX w.heap[a.block]? = true):w.frozen? a=false:=by
 unfold World.frozen?
 generalize w.heap[a.block]? = x at h
 cases x with
 | none=>rfl
 | some ob=>
   cases ob with
   | cells c t fz=>
     obtain⟨lo,hi⟩:=fz
     cases lo with
     | zero=>
       cases hi<;>simp_all[BX]
     | succ n=>simp[BX] at h
   | _=>rfl
theorem wX.BX {g:Gh}{l:Loc}{x:Option Obj}{o:aO}(h:wX g l x o):BX x=true:=by
 cases o with
 | arr sz es=>obtain⟨c,t,h1,_⟩:=h;rw[h1];rfl
 | mp d=>obtain⟨es,k,h1,_⟩:=h;rw[h1];rfl
 | lp st pending fn n mk env params assign body=>obtain⟨lo,h1,_⟩:=h;rw[h1];rfl
 | df o=>have h:x=_:=h;rw[h];rfl
 | si s p=>rw[h.1];rfl
 | mi m since seen=>obtain⟨lm,a,b,c⟩:=h;rw[b];rfl
 | mz=>obtain⟨a,b,c,h,_⟩:=h;rw[h];rfl
variable {w' : World} {b : Nat}
theorem xE (hb:BX w.heap[b]? = true)(d:BX w'.heap[b]? = true)(c:∀ k,k≠b→w'.heap[k]? = w.heap[k]?)(a:Addr):w'.frozen? a=w.frozen? a:=by
 by_cases e:a.block=b
 · simp_all[Df]
 · unfold World.frozen?
   rw[c _ e]
theorem Ext.trans {S K v:ag}{g g' y:Gh}{w w' z:World}(h:Ext S g w K g' w')(k:Ext K g' w' v y z):Ext S g w v y z:=by
 refine⟨lH h.size k.size,k.os.trans h.os,Lg.trans k.tape h.tape,k.output.trans h.output,?_,?_,Gh.le_trans h.pc k.pc,lH h.nx k.nx,k.lim.trans h.lim,?_,?_,?_,fun id bE e=>k.dead id (mJ bE h.nx) (h.dead id bE e),fun a ha=>(k.fz a (mJ ha h.size)).trans (h.fz a ha)⟩
 · intro b hb C
   rw[k.jr b (mJ hb h.size) ?_,h.jr b hb C]
   intro id o l D E F n
   obtain⟨d,o0,p,r,t,u,f⟩:=h.own id o l D (h.lim▸E) F (n▸hb)
   exact C d o0 p r t u (f.trans n)
 · intro id o l D E F n
   obtain⟨d,o0,p,r,t,u,f⟩:=k.own id o l D (h.lim.symm▸E) F (mJ n h.size)
   obtain⟨m,o1,l1,G,H,I,J⟩:=h.own d o0 p r (h.lim▸t) u (f▸n)
   exact⟨m,o1,l1,G,H,I,J.trans f⟩
 · intro id bE
   rw[k.w6 id (h.lim.symm▸bE),h.w6 id bE]
 · intro id bE
   rw[k.wY id (mJ bE h.nx),h.wY id bE]
 · intro b c e hb
   rcases k.C2 b c e (mJ hb h.size) with q | ⟨d,o0,p,r,t,u,f⟩
   · exact h.C2 b c q hb
   · obtain⟨m,o1,l1,G,H,I,J⟩:=h.own d o0 p r (h.lim▸t) u (f▸hb)
     exact .inr ⟨m,o1,l1,G,H,I,J.trans f⟩
def Gh.add (g:Gh)(id:Nat)(l:Loc):Gh:={ g with ph:=fun k=>if k=id then some l else g.ph k }
theorem Gh.add_same (g:Gh)(id:Nat)(l:Loc):(g.add id l).ph id=some l:=by simp[Gh.add]
variable {id : Nat}
theorem Gh.fu (g:Gh)(l:Loc)(h:k≠id):(g.add id l).ph k=g.ph k:=by simp[Gh.add,h]
theorem Gh.Ur (l:Loc)(h:g.ph id=none):Gh.le g (g.add id l):=
 ⟨fun _ _ e=>e,fun k x e=>by rw[Gh.fu];exact e;rintro rfl;rw[h] at e;simp at e⟩
variable {l : Loc} {S : ag}
theorem Inv.Qe (h:Inv S g w)(e:g.ph id=some l):id<S.nx:=by
 rcases jT id S.nx with k | k
 · exact k
 · rw[h.fresh id k] at e;simp at e
theorem Inv.lU (h:Inv S g w)(e:S.get id=some o):id<S.nx:=
 let ⟨_,c,_,_⟩:=h.ob id o e;h.Qe c
theorem Inv.Zp (h:Inv S g w){c:Array Value}(e:g.ro b=some c):b<w.heap.size:=by
 obtain⟨t,fz,hh⟩:=h.ro b c e
 exact(y8.1 hh).1
theorem wX.lt (h:wX g l w.heap[l.cU]? o):l.cU<w.heap.size:=by
 obtain⟨y,hy⟩:=h.some
 exact(y8.1 hy).1
theorem Inv.alloc (h:Inv S g w)(m:Ok S.nx){ob:Obj}(H:l.cU=w.heap.size)(C:wX g l (some ob) o)(hh:w'.heap=w.heap.push ob)(E:w'.os=w.os)(K:Lg w' w)(F:w'.output=w.output)(J:S.lim≤S.nx) :
   Inv (S.add o) (g.add S.nx l) w' ∧ Ext S g w (S.add o) (g.add S.nx l) w' := by
 have hf:=h.fresh S.nx (bJ _)
 have z:Gh.le g (g.add S.nx l):=Gh.Ur l hf
 have f:∀ b,b<w.heap.size→w'.heap[b]? = w.heap[b]? := by
   intro b hb;rw[hh,Array.getElem?_push,if_neg (by omega)]
 have r:w'.heap[w.heap.size]? = some ob:=by simp_all
 have G:g.ro w.heap.size=none:=by
   cases e:g.ro w.heap.size with
   | none=>rfl
   | some c=>exact absurd (h.Zp e) (by omega)
 refine⟨⟨?_,?_,?_,?_⟩,⟨?_,E,K,F,?_,?_,z,?_,rfl,?_,fun k I=>Gh.fu _ _ (by omega),fun _ _ e _=>.inl e,fun id bE e=>by rw[ag.eQ m (by omega)];exact e,fun a _=>xE (b:=w.heap.size) (by rw[Array.getElem?_eq_none (bJ _)];rfl) (by rw[r];exact C.BX) (fun k I=>by rw[hh,Array.getElem?_push,if_neg I]) a⟩⟩
 · intro b c e
   obtain⟨t,fz,L⟩:=h.ro b c e
   exact⟨t,fz,(f b (h.Zp e)).trans L⟩
 · intro id M e
   by_cases bE:id=S.nx
   · subst bE
     rw[ag.ow m] at e
     simp only[ba] at e
     subst e
     refine⟨l,Gh.add_same _ _ _,?_,?_⟩
     · rw[H];exact G
     · rw[H,r];exact C.mono z
   · rw[ag.eQ m bE] at e
     obtain⟨l', n,p,q⟩:=h.ob id M e
     refine⟨l', (Gh.fu _ _ bE).trans n,p,?_⟩
     rw[f _ q.lt]
     exact q.mono z
 · intro id D o1 o2 l1 l2 n p u v hb
   by_cases bE:id=S.nx<;>by_cases d:D=S.nx
   · rw[bE,d]
   · exfalso
     subst bE
     rw[Gh.add_same] at u;rw[Gh.fu _ _ d] at v;rw[ag.eQ m d] at p
     obtain⟨l', y,_,q3⟩:=h.ob _ _ p
     rw[v] at y;simp only[ba] at y u;subst y;subst u
     have:=q3.lt;omega
   · exfalso
     subst d
     rw[Gh.add_same] at v;rw[Gh.fu _ _ bE] at u;rw[ag.eQ m bE] at n
     obtain⟨l', y,_,q3⟩:=h.ob _ _ n
     rw[u] at y;simp only[ba] at y v;subst y;subst v
     have:=q3.lt;omega
   · rw[Gh.fu _ _ bE] at u;rw[Gh.fu _ _ d] at v
     rw[ag.eQ m bE] at n;rw[ag.eQ m d] at p
     exact h.inj id D o1 o2 l1 l2 n p u v hb
 · intro id bE
   have d:S.nx+1≤id:=bE
   rw[Gh.fu _ _ (by omega)]
   exact h.fresh id (by omega)
 · rw[hh,Array.size_push];omega
 · intro b hb _;exact f b hb
 · intro id o1 l1 n p q N
   by_cases bE:id=S.nx
   · subst bE;rw[Gh.add_same] at q;simp only[ba] at q;subst q;omega
   · rw[ag.eQ m bE] at n;rw[Gh.fu _ _ bE] at q
     exact⟨id,o1,l1,n,p,q,rfl⟩
 · show S.nx≤S.nx+1;omega
 · intro id bE;exact ag.eQ m (by omega)
variable {o' : aO} {ob' : Obj}
theorem Inv.jz (h:Inv S g w)(bE:S.get id=some o)(q:S.lim≤id)(r:g.ph id=some l)(hs:w'.heap.size=w.heap.size)(hb:w'.heap[l.cU]? = some ob')(u:∀ k,k≠l.cU→w'.heap[k]? = w.heap[k]?)(z:w'.os=w.os)(L:Lg w' w)(C:w'.output=w.output)(p:wX g l (some ob') o') :
   Inv (S.set id o') g w' ∧ Ext S g w (S.set id o') g w' := by
 have hi:=ag.gv bE
 obtain⟨T,y,q2,q3⟩:=h.ob id o bE
 rw[r] at y;simp only[ba] at y;subst y
 refine ⟨⟨?_,?_,?_,?_⟩,⟨?_,z,L,C,?_,?_,Gh.le_refl _,bJ _,rfl,?_,fun _ _=>rfl,fun _ _ e _=>.inl e,fun d _ e=>by
   rw[ag.bt hi (by rintro rfl;simp_all)];exact e,fun a _=>xE (b:=l.cU) q3.BX (by rw[hb];exact p.BX) u a⟩⟩
 · intro b c e
   obtain⟨t,fz,M⟩:=h.ro b c e
   refine⟨t,fz,(u b ?_).trans M⟩
   rintro rfl;rw[q2] at e;simp at e
 · intro d J e
   by_cases f:d=id
   · subst f
     rw[ag.cQ hi] at e;simp only[ba] at e;subst e
     exact⟨l,r,q2,by rw[hb];exact p⟩
   · rw[ag.bt hi f] at e
     obtain⟨l', m,n,v⟩:=h.ob d J e
     refine⟨l', m,n,?_⟩
     rw[u];exact v
     intro N;exact f (h.inj d id J o l' l e bE m r N)
 · intro a b o1 o2 l1 l2 m n O P D
   have key:∀ k o1,(S.set id o').get k=some o1→∃ o2,S.get k=some o2:=by
     intro k o1 e
     by_cases f:k=id
     · subst f;exact⟨o,bE⟩
     · rw[ag.bt hi f] at e;exact⟨o1,e⟩
   obtain⟨E,F⟩:=key a o1 m
   obtain⟨G,H⟩:=key b o2 n
   exact h.inj a b E G l1 l2 F H O P D
 · intro k Q;exact h.fresh k Q
 · omega
 · intro b R I
   exact u b (fun e=>I id o l bE q r e.symm)
 · intro d o1 l1 m n v U
   by_cases f:d=id
   · subst f;exact⟨d,o,l1,bE,n,v,rfl⟩
   · rw[ag.bt hi f] at m;exact⟨d,o1,l1,m,n,v,rfl⟩
 · intro d K;exact ag.bt hi (by omega)
structure ag.sub (A B : ag) : Prop where
 nx : B.nx = A.nx
 lim : A.lim = B.lim
 get : ∀ id o, A.get id = some o → B.get id = some o
variable {A B : ag}
theorem Inv.sub (hs:ag.sub A B)(h:Inv B g w):Inv A g w:=
 ⟨h.ro,fun id o e=>h.ob id o (hs.get id o e),fun id c o o' l l' e d=>h.inj id c o o' l l' (hs.get _ _ e) (hs.get _ _ d),fun id bE=>h.fresh id (by rw[hs.nx];exact bE)⟩
theorem ag.JN (h:Ok id):ag.sub (S.del id) S:=
 ⟨rfl,rfl,fun k o e=>by
  by_cases c:k=id
  all_goals simp_all[ag.iK,ag.dM]⟩
theorem Ext.forget (hs:ag.sub A B)(c:∀ id,id<B.lim→A.get id=B.get id):Ext B g w A g w:=
 ⟨bJ _,rfl,⟨rfl,bJ _⟩,rfl,fun _ _ _=>rfl,fun id o l e d f _=>⟨id,o,l,hs.get id o e,d,f,rfl⟩,Gh.le_refl _,by rw[hs.nx];omega,hs.lim,c,fun _ _=>rfl,fun _ _ e _=>.inl e,fun id _ e=>by
  cases q:A.get id with
  | none=>rfl
  | some o=>rw[hs.get id o q] at e;simp at e,fun _ _=>rfl⟩
theorem Inv.move (h:Inv S g w)(O:Ok S.nx){l' : Loc}(bE:S.get id=some o)(q:S.lim≤id)(D:g.ph id=some l)(n:l'.cU=l.cU)(hs:w'.heap.size=w.heap.size)(hb:w'.heap[l.cU]? = some ob')(I:∀ k,k≠l.cU→w'.heap[k]? = w.heap[k]?)(L:w'.os=w.os)(P:Lg w' w)(M:w'.output=w.output)(G:wX g l' (some ob') o') :
   Inv ((S.del id).add o') (g.add S.nx l') w' ∧ Ext S g w ((S.del id).add o') (g.add S.nx l') w' := by
 have hi:=ag.gv bE
 have T:=h.lU bE
 have hf:=h.fresh S.nx (bJ _)
 have z:Gh.le g (g.add S.nx l'):=Gh.Ur l' hf
 have H:Ok (S.del id).nx:=O
 obtain⟨V,J,q2,q3⟩:=h.ob id o bE
 rw[D] at J;simp only[ba] at J;subst J
 have Q:((S.del id).add o').get S.nx=some o' := ag.ow (s:=S.del id) H
 have K:∀ k,k≠S.nx→((S.del id).add o').get k=(S.del id).get k:=fun k d=>ag.eQ (s:=S.del id) H d
 have E:∀ k a,k≠S.nx→((S.del id).add o').get k=some a→k≠id∧S.get k=some a:=by
   intro k a d e
   rw[K k d] at e
   by_cases m:k=id
   · subst m;rw[ag.iK] at e;simp at e
   · rw[ag.dM hi m] at e;exact⟨m,e⟩
 refine ⟨⟨?_,?_,?_,?_⟩,⟨?_,L,P,M,?_,?_,z,?_,rfl,?_,fun k d=>Gh.fu _ _ (by omega),fun _ _ e _=>.inl e,fun k d e=>by
   rw[K k (by omega)]
   by_cases m:k=id
   · subst m;rw[bE] at e;simp at e
   · rw[ag.dM hi m];exact e,fun a _=>xE (b:=l.cU) q3.BX (by rw[hb];exact G.BX) I a⟩⟩
 · intro b c e
   obtain⟨t,fz,p⟩:=h.ro b c e
   refine⟨t,fz,(I b ?_).trans p⟩
   rintro rfl
   have:g.ro l.cU=some c:=e
   rw[q2] at this;simp at this
 · intro k a e
   by_cases d:k=S.nx
   · subst d;rw[Q] at e;simp only[ba] at e;subst e
     refine⟨l', Gh.add_same _ _ _,?_,?_⟩
     · rw[n];exact q2
     · rw[n,hb];exact G.mono z
   · obtain⟨m,p⟩:=E k a d e
     obtain⟨l1,r,F,u⟩:=h.ob k a p
     refine⟨l1,(Gh.fu _ _ d).trans r,F,?_⟩
     rw[I];exact u.mono z
     intro R;exact m (h.inj k id a o l1 l p bE r D R)
 · intro a b o1 o2 l1 l2 r F v y C
   by_cases ha:a=S.nx<;>by_cases f:b=S.nx
   · rw[ha,f]
   · exfalso;subst ha
     rw[Gh.add_same] at v;rw[Gh.fu _ _ f] at y
     simp only[ba] at v;subst v
     obtain⟨m,p⟩:=E b o2 f F
     exact m (h.inj b id o2 o l2 l p bE y D (C.symm.trans n))
   · exfalso;subst f
     rw[Gh.add_same] at y;rw[Gh.fu _ _ ha] at v
     simp only[ba] at y;subst y
     obtain⟨m,p⟩:=E a o1 ha r
     exact m (h.inj a id o1 o l1 l p bE v D (C.trans n))
   · rw[Gh.fu _ _ ha] at v;rw[Gh.fu _ _ f] at y
     exact h.inj a b o1 o2 l1 l2 (E a o1 ha r).2 (E b o2 f F).2 v y C
 · intro k d
   have U:S.nx+1≤k:=d
   rw[Gh.fu _ _ (by omega)];exact h.fresh k (by omega)
 · omega
 · intro b f N
   exact I b (fun e=>N id o l bE q D e.symm)
 · intro k o1 l1 r F u W
   by_cases d:k=S.nx
   · subst d;rw[Gh.add_same] at u;simp only[ba] at u;subst u
     exact⟨id,o,l,bE,q,D,n.symm⟩
   · rw[Gh.fu _ _ d] at u
     exact⟨k,o1,l1,(E k o1 d r).2,F,u,rfl⟩
 · show S.nx≤S.nx+1;omega
 · intro k d
   rw[K k (by omega),ag.dM hi (by omega)]
end
noncomputable section
def nth {α:Type}:List α→Nat→Option α
 | [],_=>none
 | a::_,0=>some a
 | _::l,n+1=>nth l n
variable {α : Type}
theorem j8 (l:List α)(n:Nat):nth l n=l[n]? := by
 induction l generalizing n with
 | nil=>simp[nth]
 | cons a l d=>cases n<;>simp_all[nth]
def Rk (P:Program)(t:TypeId):Option Bool:=
 match P.underlying t with
 | some (.struct _)=>some true
 | some (.array _ _)=>some true
 | some _=>some false
 | none=>none
def tw (P:Program)(t:TypeId):Option Nat:=
 match P.info? t with
 | some i=>some i.size
 | none=>none
section
variable {P : Program} {w : World}
variable {t : TypeId}
theorem ah {d:TypeDesc}(h:P.underlying t=some d):(underlying t).run P w=.ok d w:=by
 simp[underlying,h]
theorem cY {i:TypeInfo}(h:P.info? t=some i):(typeInfo t).run P w=.ok i w:=by
 simp[typeInfo,h]
theorem rY {b:Bool}(h:Rk P t=some b):(isAgg t).run P w=.ok b w:=by
 unfold Rk at h
 split at h<;>simp only[ba,reduceCtorEq] at h
 · simp_all[isAgg,ah]
 · simp_all[isAgg,ah]
 · rename_i d h1 h2 hu
   subst h
   simp only[isAgg,Sem.run_bind,ah hu,Result.andThen_ok]
   simp_all
variable {n : Nat}
theorem run_sizeOf (h:tw P t=some n):(sizeOf t).run P w=.ok n w:=by
 unfold tw at h
 split at h<;>simp only[ba,reduceCtorEq] at h
 simp_all[sizeOf,cY]
end
theorem Addr.om (b o n:Nat):(⟨b,o,none⟩:Addr).add n=⟨b,o+n,none⟩:=by
 simp_all[Addr.add]
variable {t : TypeId} {w : World} {b o : Nat} {c : Array Value} {fz : Nat × Nat} {x : Value}
theorem cell_of (h:w.heap[b]? = some (.cells c t fz))(hx:c[o]? = some x):w.cell? ⟨b,o,none⟩=some x:=by
 simp[World.cell?, h,hx]
variable {P : Program}
theorem run_loadCellsFrom (h:w.heap[b]? = some (.cells c t fz)):∀(n i:Nat) (a:Array Value),
   o+i+n≤c.size→(loadCellsFrom ⟨b,o,none⟩ i n a).run P w=.ok (a++(c.extract (o+i) (o+i+n))) w:=by
 intro n
 induction n with
 | zero=>
   simp_all[loadCellsFrom]
 | succ n d=>
   intro i a k
   have hx:c[o+i]? = some c[o+i]:=Ak (by omega)
   have e:w.cell? ⟨b,o+i,none⟩=some c[o+i]:=cell_of h hx
   simp only[loadCellsFrom,Sem.run_bind,Addr.om,run_load,e,Result.andThen_ok]
   rw[d (i+1) _ (by omega)]
   congr 1
   apply Array.ext'
   simp only[B7,Array.toList_push,Array.toList_extract]
   rw[nu]
   congr 1
   have f:o+(i+1)+n-(o+(i+1))=n:=by omega
   have j:o+i+(n+1)-(o+i)=n+1:=by omega
   simp only[List.extract_eq_take_drop] at *
   rw[f,j]
   rw [show c.toList.drop (o+i)=c[o+i]::c.toList.drop (o+i+1) from by
    rw[cW (by simp;omega)];simp]
   simp[Nat.add_assoc]
variable {n : Nat}
theorem run_loadCells (h:w.heap[b]? = some (.cells c t fz))(a:o+n≤c.size) :
  (loadCells ⟨b,o,none⟩ n).run P w=.ok (c.extract o (o+n)) w:=by
 have:=run_loadCellsFrom (P:=P) h n 0 #[] (by simpa using a)
 simpa [loadCells] using this
def zy (g:Gh)(cs:List AV)(c:Array Value)(o:Nat):Prop:=o+cs.length≤c.size∧∀(j:Nat) (a:AV) (x:Value),cs[j]? = some a→c[o+j]? = some x→VR g a x
theorem zy.drop {g:Gh}{cs:List AV}{c:Array Value}{o:Nat}(h:zy g cs c o){k:Nat}(f:k≤cs.length):zy g (cs.drop k) c (o+k):=by
 refine⟨by have:=h.1;simp;omega,fun j a x e d=>?_⟩
 rw[su] at e
 exact h.2 (k+j) a x e (by rw[←d];congr 1;omega)
variable {g : Gh} {cs : List AV}
theorem zy.tC (h:zy g cs c o)(f:n≤cs.length):hM g (cs.take n) (c.extract o (o+n)):=by
 refine⟨by have:=h.1;simp;omega,fun k a x e d=>?_⟩
 rw[sx] at e
 split at e
 · rw[Fv] at d
   split at d
   · exact h.2 k a x e d
   · simp at d
 · simp at e
def ld (S:ag):AV→Option (List AV)
 | .ptr id i j=>match S.get id with
   | some (.arr _ es)=>match nth es i with
     | some e=>match Nat.ble j e.cells.length with
       | true=>some (e.cells.drop j)
       | false=>none
     | none=>none
   | _=>none
 | .dO cs=>some cs
 | _=>none
variable {S : ag} {v : AV}
theorem xO (hi:Inv S g w)(h:ld S v=some cs)(u:VR g v x) :
   ∃ b o c t fz,x=.pointer (some ⟨b,o,none⟩)∧w.heap[b]? = some (.cells c t fz)∧zy g cs c o:=by
 unfold ld at h
 split at h
 · rename_i id i j
   split at h<;>try (simp at h;done)
   rename_i sz es A
   split at h<;>try (simp at h;done)
   rename_i e m
   rw[j8] at m
   split at h<;>simp only[ba,reduceCtorEq] at h
   rename_i B
   subst h
   cases u with
   | ptr C=>
     rename_i l
     obtain⟨l', h1,h2,h3⟩:=hi.ob _ _ A
     rw[C] at h1;simp only[ba] at h1;subst h1
     obtain⟨c,t,D,H,z,I,E,F⟩:=h3
     have p:=gb B
     refine⟨l.cU,_,c,t,_,rfl,D,?_⟩
     have d:=E e (uI m)
     have s:i<es.length:=(lr.1 m).1
     have f:l.base+i*l.sz+e.cells.length≤c.size:=by
      rw[d,z]
      have:i*sz+sz≤es.length*sz:=by
       have:(i+1)*sz≤es.length*sz:=xY _ s
       rw[mM] at this;exact this
      omega
     have:zy g e.cells c (l.base+i*l.sz):=⟨f,fun k a y q r=>F i k e a y m q (by rw[←z];exact r)⟩
     exact this.drop p
 · cases u with
   | dO G hb hh=>
     simp only[ba] at h;subst h
     obtain⟨t,fz,e⟩:=hi.ro _ _ G
     exact⟨_,_,_,t,fz,rfl,e,hb,hh⟩
 · simp at h
def um (P:Program)(t:TypeId)(cs:List AV):Option AV:=
 match Rk P t with
 | some true=>match tw P t with
   | some n=>match Nat.ble n cs.length with
     | true=>some (.agg (cs.take n))
     | false=>none
   | none=>none
 | some false=>nth cs 0
 | none=>none
theorem Bc (hi:Inv S g w){r:AV}(h:ld S v=some cs)(a:um P t cs=some r)(j:VR g v x) :
   ∃ y,(Instr.loadAt t x).run P w=.ok y w∧VR g r y:=by
 obtain⟨b,o,c,m,fz,rfl,i,e⟩:=xO hi h j
 unfold um at a
 split at a
 · rename_i ha
   split at a<;>try (simp at a;done)
   rename_i n k
   split at a<;>simp only[ba,reduceCtorEq] at a
   rename_i d
   have d:=gb d
   subst a
   refine⟨.agg (c.extract o (o+n)),?_,?_⟩
   · simp only[Instr.loadAt,Instr.sureAddr,Sem.run_bind,Sem.run_pure,Result.andThen_ok,loadVar,rY ha,if_true,run_sizeOf k]
     rw[run_loadCells i (by have:=e.1;omega)]
     rfl
   · exact .agg (e.tC d).1 (e.tC d).2
 · rename_i ha
   rw[j8] at a
   have l:0<cs.length:=(lr.1 a).1
   have f:o<c.size:=by have:=e.1;omega
   have hx:c[o]? = some c[o]:=Ak f
   refine⟨c[o],?_,e.2 0 r _ a (by simp)⟩
   simp only[Instr.loadAt,Instr.sureAddr,Sem.run_bind,Sem.run_pure,Result.andThen_ok,loadVar,rY ha,dL,if_false,run_load,cell_of i hx]
 · simp at a
def eI : AV→Bool
 | .agg _=>false
 | .bO _=>false
 | .top=>false
 | _=>true
theorem rH (h:eI v=true)(a:VR g v x):x.oneCell' = true:=by
 cases a with
 | sc d=>cases x<;>first | rfl | simp[Lk] at d
 | agg=>simp[eI] at h
 | bO=>simp[eI] at h
 | top=>simp[eI] at h
 | _=>rfl
def mS {α:Type}:List α→Nat→List α→List α
 | l,_,[]=>l
 | [],_,_=>[]
 | _::l,0,y::ys=>y::mS l 0 ys
 | a::l,n+1,ys=>a::mS l n ys
theorem gC (l:List α)(n:Nat)(ys:List α):(mS l n ys).length=l.length:=by
 induction l generalizing n ys with
 | nil=>cases ys<;>rfl
 | cons a l d=>cases ys with
   | nil=>rfl
   | cons y ys=>cases n<;>simp[mS,d]
theorem iH (l:List α)(n:Nat)(ys:List α)(d:n+ys.length≤l.length)(k:Nat):(mS l n ys)[k]? = if n≤k∧k<n+ys.length then ys[k-n]? else l[k]? := by
 induction l generalizing n ys k with
 | nil=>simp_all[mS]
 | cons a l e=>cases ys with
   | nil=>simp[mS];intro h f;omega
   | cons y ys=>
     cases n with
     | zero=>cases k<;>simp_all[mS,q8]
     | succ n=>cases k with
       | zero=>simp[mS]
       | succ k=>
         simp only[mS,q8]
         rw[e n (y::ys) (by simp at d ⊢;omega)]
         simp only[lI]
         by_cases h:n≤k∧k<n+(ys.length+1)
         · rw[if_pos h,if_pos (by omega)];congr 1;omega
         · rw[if_neg h,if_neg (by omega)]
def akx : List AV→AV
 | [v]=>match eI v with
   | true=>v
   | false=>.agg [v]
 | l=>.agg l
theorem ID (l:List AV):(akx l).cells=l:=by
 cases l with
 | nil=>rfl
 | cons v r=>
   cases r with
   | nil=>
     show(match eI v with | true=>v | false=>AV.agg [v]).cells=[v]
     cases a:eI v with
     | false=>rfl
     | true=>cases v<;>first | rfl | simp[eI] at a
   | cons u r=>rfl
def x5 (P:Program)(S:ag)(t:TypeId)(p v:AV):Option ag:=
 match p with
 | .ptr id i j=>match S.get id with
   | some (.arr sz es)=>match nth es i with
     | some e=>match tw P t with
       | some n=>match Nat.beq v.cells.length n&&Nat.ble (j+n) e.cells.length&&v.cells.all eI&&Nat.ble S.lim id with
         | true=>some (S.set id (.arr sz (es.set i (akx (mS e.cells j v.cells)))))
         | false=>none
       | none=>none
     | none=>none
   | _=>none
 | _=>none
theorem kb (h:VR g v x)(f:v.cells.all eI=true):hM g v.cells x.cells:=by
 have one:∀ {u:AV} {y:Value},VR g u y→hM g [u] #[y]:=by
   intro u y hu
   exact hM.cons (xs:=[]) hu ⟨rfl,by simp⟩
 cases h with
 | agg i h=>exact⟨i,h⟩
 | sc h=>
   have:Value.cells x = #[x]:=by cases x<;>first | rfl | simp[Lk] at h
   rw[this];exact one (.sc h)
 | bO i h=>simp[AV.cells,eI] at f
 | top=>simp[AV.cells,eI] at f
 | fw=>exact one .fw
 | an=>exact one .an
 | hZ a b=>exact one (.hZ a b)
 | lit a b c d e=>exact one (.lit a b c d e)
 | jZ=>exact one .jZ
 | dO a b c=>exact one (.dO a b c)
 | ptr a=>exact one (.ptr a)
 | ai a b c=>exact one (.ai a b c)
 | cR a=>exact one (.cR a)
 | fn a b c d=>exact one (.fn a b c d)
 | eB a=>exact one (.eB a)
 | clip a=>exact one (.clip a)
 | sj a=>exact one (.sj a)
theorem oD (d:List Value):∀(w:World) (c:Array Value) (i:Nat),w.heap[b]? = some (.cells c t (0,0))→o+i+d.length≤c.size→(∀ x,x∈d→x.oneCell' = true) →
   ∃ w', (storeCells ⟨b,o,none⟩ d i).run P w=.ok () w' ∧ w'.heap[b]? = some (.cells (mS c.toList (o+i) d).toArray t (0,0))∧(∀ k,k≠b→w'.heap[k]? = w.heap[k]?)∧w'.heap.size=w.heap.size ∧
     w'.os=w.os∧Lg w' w∧w'.output=w.output:=by
 induction d with
 | nil=>
   intro w c i h _ _
   refine⟨w,by simp[storeCells],?_,fun _ _=>rfl,rfl,rfl,⟨rfl,bJ _⟩,rfl⟩
   simp_all[mS]
 | cons v d q=>
   intro w c i h a p
   have f:o+i<c.size:=by simp at a;omega
   have hx:c[o+i]? = some c[o+i]:=Ak f
   have r:w.cell? ⟨b,o+i,none⟩=some c[o+i]:=cell_of h hx
   have hf:w.frozen? ⟨b,o+i,none⟩=false:=by simp[World.frozen?, h]
   have s:v.oneCell' = true:=p v (by simp)
   have l:(w.setCell ⟨b,o+i,none⟩ v).heap[b]? = some (.cells (c.setIfInBounds (o+i) v) t (0,0)):=by
     simp[World.setCell,Fw,h]
   obtain⟨w', h1,h2,h3,h4,u,y,z⟩:=q (w.setCell ⟨b,o+i,none⟩ v) (c.setIfInBounds (o+i) v) (i+1) l (by simp at a ⊢;omega) (fun x hx=>p x (by simp[hx]))
   refine⟨w', ?_,?_,?_,?_,u,y,z⟩
   · simp only[storeCells,Sem.run_bind,Addr.om,run_store P w _ v _ s,r,hf,dL,if_false,Result.andThen_ok]
     exact h1
   · rw[h2]
     congr 3
     apply zz
     intro k
     rw[iH _ _ _ (by simp at a ⊢;omega),iH _ _ _ (by simp at a ⊢;omega)]
     simp only[Array.toList_setIfInBounds,List.getElem?_set,lI,xh]
     by_cases m:k=o+i
     · subst m
       rw[if_neg (by omega),if_pos rfl,if_pos f,if_pos (by omega)]
       simp
     · by_cases j:o+(i+1)≤k∧k<o+(i+1)+d.length
       · rw[if_pos j,if_pos (by omega)]
         rw[show k-(o+i)=(k-(o+(i+1)))+1 from by omega,q8]
       · rw[if_neg j,if_neg (by omega),if_neg (by omega)]
   · intro k m
     rw[h3 k m]
     simp only[World.setCell,Fw]
     rw[if_neg (fun e=>m e.symm)]
   · rw[h4];simp
theorem Hn {L:ag}(hi:Inv S g w){p:AV}{y:Value}(h:x5 P S t p v=some L)(Y:VR g p x)(Z:VR g v y) :
   ∃ w', (Instr.storeAt t x y).run P w=.ok () w' ∧ Inv L g w' ∧ Ext S g w L g w' := by
 unfold x5 at h
 split at h<;>try (simp at h;done)
 rename_i id i j
 split at h<;>try (simp at h;done)
 rename_i sz es T
 split at h<;>try (simp at h;done)
 rename_i e J
 rw[j8] at J
 split at h<;>try (simp at h;done)
 rename_i n hn
 split at h<;>simp only[ba,reduceCtorEq] at h
 rename_i s
 subst h
 simp only[aY] at s
 obtain⟨⟨⟨h1,h2⟩,h3⟩,h4⟩:=s
 have h1:v.cells.length=n:=np h1
 have h2:=gb h2
 have h4:=gb h4
 cases Y with
 | ptr U=>
   rename_i l
   obtain⟨l', M,q2,q3⟩:=hi.ob _ _ T
   rw[U] at M;simp only[ba] at M;subst M
   obtain⟨c,V,p1,p2,u,p4,N,W⟩:=q3
   have r:=N e (uI J)
   have F:i<es.length:=(lr.1 J).1
   have X:i*sz+sz≤es.length*sz:=by
     have:(i+1)*sz≤es.length*sz:=xY _ F
     rw[mM] at this;exact this
   have f:=kb Z h3
   have I:∀ z,z∈y.cells.toList→z.oneCell' = true:=by
     intro z hz
     obtain⟨k,hk⟩:=gM hz
     have G:y.cells[k]? = some z:=by simpa using hk
     have H:k<v.cells.length:=by rw[f.1];exact(y8.1 G).1
     have ha:v.cells[k]? = some v.cells[k]:=qm H
     exact rH (dh.1 h3 _ (cM H)) (f.2 k _ z ha G)
   have B:y.cells.toList.length=n:=by rw[←h1,f.1];simp
   obtain⟨w', r1,r2,r3,r4,r5,r6,r7⟩:=oD (P:=P) (b:=l.cU) (o:=l.base+i*l.sz+j) (t:=V) y.cells.toList w c 0 p1 (by rw[B,u];omega) I
   refine⟨w', ?_,?_⟩
   · simp only[Instr.storeAt,Instr.sureAddr,Sem.run_bind,Sem.run_pure,Result.andThen_ok,storeVar,run_sizeOf hn]
     rw[if_neg (by rw[←h1,f.1];simp)]
     exact r1
   · refine hi.jz T h4 U r4 r2 r3 r5 r6 r7 ?_
     refine⟨_,V,rfl,?_,u,?_,?_,?_⟩
     · simp[gC,p2]
     · simp[gC];exact p4
     · intro K O
       rcases List.mem_or_eq_of_mem_set O with hm | hm
       · exact N K hm
       · subst hm;rw[ID,gC];exact r
     · intro E d K a z A m q
       rw[q9,iH _ _ _ (by rw[B,u];simp;omega),B] at q
       rw[List.getElem?_set] at A
       by_cases C:i=E
       · subst C
         rw[if_pos rfl,if_pos F] at A
         simp only[ba] at A
         subst A
         rw[ID,iH _ _ _ (by rw[h1];exact h2),h1] at m
         have Q:d<sz:=by
           by_cases s:j≤d∧d<j+n
           · omega
           · rw[if_neg s] at m;rw[←r];exact(lr.1 m).1
         by_cases s:j≤d∧d<j+n
         · rw[if_pos s] at m
           rw[if_pos (by rw[u];omega)] at q
           have e1:l.base+i*sz+d-(l.base+i*l.sz+j+0)=d-j:=by rw[u];omega
           rw[e1] at q
           exact f.2 _ a z m (by simpa using q)
         · rw[if_neg s] at m
           rw[if_neg (by rw[u];omega)] at q
           exact W i d e a z J m (by simpa using q)
       · rw[if_neg C] at A
         have Q:d<sz:=by rw[←N K (uI A)];exact(lr.1 m).1
         have R:¬ (l.base+i*l.sz+j+0≤l.base+E*sz+d∧l.base+E*sz+d<l.base+i*l.sz+j+0+n):=by
           rw[u]
           rintro⟨c1,c2⟩
           rcases Nat.lt_or_gt_of_ne C with D | D
           · have:(i+1)*sz≤E*sz:=xY _ D
             rw[mM] at this;omega
           · have:(E+1)*sz≤i*sz:=xY _ D
             rw[mM] at this;omega
         rw[if_neg R] at q
         exact W E d K a z A m (by simpa using q)
end
noncomputable section
def Og (op:BinOp)(k:IntKind)(a b:Int):Option Value:=
 match op with
 | .add=>some (.int k (k.wrap (a+b)))
 | .sub=>some (.int k (k.wrap (a-b)))
 | .mul=>some (.int k (k.wrap (a*b)))
 | .quo=>if b=0 then none else some (.int k (k.wrap (a.tdiv b)))
 | .rem=>if b=0 then none else some (.int k (a.tmod b))
 | .and=>some (.int k (k.wrap (BitVec.ofInt k.bits a &&& BitVec.ofInt k.bits b).toNat))
 | .or=>some (.int k (k.wrap (BitVec.ofInt k.bits a ||| BitVec.ofInt k.bits b).toNat))
 | .xor=>some (.int k (k.wrap (BitVec.ofInt k.bits a ^^^ BitVec.ofInt k.bits b).toNat))
 | .andNot=>some (.int k (k.wrap (BitVec.ofInt k.bits a &&& ~~~BitVec.ofInt k.bits b).toNat))
 | .eql=>some (.bool (a==b))
 | .neq=>some (.bool (a != b))
 | .lss=>some (.bool (decide (a<b)))
 | .leq=>some (.bool (decide (a≤b)))
 | .gtr=>some (.bool (decide (a>b)))
 | .geq=>some (.bool (decide (a≥b)))
 | _=>none
def FJ (op:BinOp)(k:IntKind)(a b:Int):Option Value:=
 if b<0 then none else
 match op with
 | .shl=>some (.int k (k.wrap (a*2 ^ (min b.toNat k.bits))))
 | .shr=>some (.int k (a.fdiv (2 ^ (min b.toNat k.bits))))
 | _=>none
section
variable {P : Program} {w : World}
variable {op : BinOp} {t : TypeId} {k : IntKind} {b : Int} {v : Value}
theorem OU {a:Int}(h:Og op k a b=some v):(binOp op t (.int k a) (.int k b)).run P w=.ok v w:=by
 cases op<;>simp only[Og,ba,reduceCtorEq] at h <;>
  first
   | (subst h;simp[binOp,Op.intArith,Op.intCmp,Op.intBits];done)
   | simp_all[binOp,Op.intDiv]
variable {k' : IntKind}
theorem J7 {a:Int}(h:FJ op k a b=some v):(binOp op t (.int k a) (.int k' b)).run P w=.ok v w:=by
 unfold FJ at h
 split at h
 · simp at h
 · rename_i hb
   cases op<;>simp only[ba,reduceCtorEq] at h<;>(subst h;simp[binOp,Op.shift,hb])
theorem wC {x y:Operand}{a:Int}:(eqGuard op t x y (.int k a) (.int k' b)).run P w=.ok () w:=by
 unfold eqGuard;split<;>simp
end
def Ya : BinOp→Bool
 | .shl=>true
 | .shr=>true
 | _=>false
def W0 (P:Program)(t:TypeId)(a b:Value):Option Bool:=
 match P.underlying t,a,b with
 | some (.int _),.int k x,.int k' y=>if k=k' then some (x==y) else none
 | some .bool,.bool x,.bool y=>some (x==y)
 | some .string,.string x,.string y=>some (x.data.toList==y.data.toList)
 | _,_,_=>none
variable {t : TypeId} {P : Program} {w : World} {d : Nat}
theorem LO {a b:Value}{r:Bool}(h:W0 P t a b=some r):(Op.equalIn (d+1) t a b).run P w=.ok r w:=by
 unfold W0 at h
 split at h
 all_goals simp_all[run_equalIn_int,run_equalIn_bool', run_equalIn_string,ByteArray.toList_eq]
def N4 (P : Program) : List Field → List AV → List AV → Option Bool
 | [], _, _ => some true
 | f :: fs, xs, ys => if f.name ≠ "_" ∧ Rk P f.type = some false then
    match nth xs f.offset, nth ys f.offset with
    | some (.sc a), some (.sc b) => match W0 P f.type a b with
      | some true => N4 P fs xs ys
      | some false => some false
      | none => none
    | _, _ => none
   else none
variable {g : Gh}
theorem U3 {xs ys:List AV}{c i:Array Value}(hx:hM g xs c)(hy:hM g ys i):∀ {fs:List Field} {r:Bool},N4 P fs xs ys=some r →
   (Op.eqFields (d+1) c i fs).run P w=.ok r w:=by
 intro fs
 induction fs with
 | nil=>simp_all[N4,Op.eqFields]
 | cons f fs o=>
   intro r h
   simp only[N4] at h
   split at h
   · rename_i p
     obtain⟨j,ha⟩:=p
     split at h
     · rename_i a b l n
       rw[j8] at l n
       obtain⟨z,q,s⟩:=hx.get l
       obtain⟨A,u,q2⟩:=hy.get n
       cases s with | sc _=>?_
       cases q2 with | sc _=>?_
       have k1:(part f.type c f.offset).run P w=.ok a w:=by simp[part,rY ha,q]
       have k2:(part f.type i f.offset).run P w=.ok b w:=by simp[part,rY ha,u]
       split at h<;>try (simp at h;done)
       · rename_i e
         simp only[Op.eqFields,if_pos j,Sem.run_bind,k1,k2,Result.andThen_ok,LO e]
         simpa using o h
       · rename_i e
         simp only[ba] at h;subst h
         simp only[Op.eqFields,if_pos j,Sem.run_bind,k1,k2,Result.andThen_ok,LO e]
         simp
     · simp at h
   · simp at h
def Us (op:BinOp)(x y:ByteArray):Option Value:=
 match op with
 | .eql=>some (.bool (x.data.toList==y.data.toList))
 | .neq=>some (.bool (!(x.data.toList==y.data.toList)))
 | .lss=>some (.bool (Op.bytesLess x.data.toList y.data.toList))
 | .leq=>some (.bool (Op.bytesLess x.data.toList y.data.toList||x.data.toList==y.data.toList))
 | .gtr=>some (.bool (!(Op.bytesLess x.data.toList y.data.toList||x.data.toList==y.data.toList)))
 | .geq=>some (.bool (!Op.bytesLess x.data.toList y.data.toList))
 | _=>none
def n8 (op:BinOp)(r:Bool):Option AV:=
 match op with
 | .eql=>some (.sc (.bool r))
 | .neq=>some (.sc (.bool (!r)))
 | _=>none
def uP (P:Program)(op:BinOp)(t:TypeId)(a b:AV):Option AV:=
 match a,b with
 | .sc (.int k x),.sc (.int k' y)=>match Ya op with
   | true=>match FJ op k x y with
     | some v=>match Lk v with
       | true=>some (.sc v)
       | false=>none
     | none=>none
   | false=>if k=k' then
       match Og op k x y with
       | some v=>match Lk v with
         | true=>some (.sc v)
         | false=>none
       | none=>none
     else none
 | .sc (.bool x),.sc (.bool y)=>match P.underlying t with
   | some .bool=>n8 op (x==y)
   | _=>none
 | .sc (.string x),.sc (.string y)=>match Us op x y with
   | some v=>match Lk v with
     | true=>some (.sc v)
     | false=>none
   | none=>none
 | .ptr _ _ _,.sc (.pointer none)=>match P.underlying t with
   | some (.pointer _)=>n8 op false
   | _=>none
 | .dO _,.sc (.pointer none)=>match P.underlying t with
   | some (.pointer _)=>n8 op false
   | _=>none
 | .sc (.pointer none),.sc (.pointer none)=>match P.underlying t with
   | some (.pointer _)=>n8 op true
   | _=>none
 | .eB _ _,.sc .nilIface=>match P.underlying t with
   | some (.interface _)=>n8 op false
   | _=>none
 | .an,.an=>match P.underlying t with
   | some (.slice _)=>n8 op true
   | _=>none
 | .ai _ _ _,.an=>match P.underlying t with
   | some (.slice _)=>n8 op false
   | _=>none
 | .lit (_::_),.an=>match P.underlying t with
   | some (.slice _)=>n8 op false
   | _=>none
 | .fn _ _ _,.sc .nilFunc=>match P.underlying t with
   | some (.func _ _ _)=>n8 op false
   | _=>none
 | .sj _,.sc .nilFunc=>match P.underlying t with
   | some (.func _ _ _)=>n8 op false
   | _=>none
 | .sc .nilFunc,.sc .nilFunc=>match P.underlying t with
   | some (.func _ _ _)=>n8 op true
   | _=>none
 | .cR _,.sc (.map none)=>match P.underlying t with
   | some (.map _ _)=>n8 op false
   | _=>none
 | .sc (.map none),.sc (.map none)=>match P.underlying t with
   | some (.map _ _)=>n8 op true
   | _=>none
 | .agg xs,.agg ys=>match P.underlying t with
   | some (.struct fs)=>match P.stoodInHeld t||P.eqGuardType P.depth t with
     | false=>match N4 P fs.toList xs ys with
       | some r=>n8 op r
       | none=>none
     | true=>none
   | _=>none
 | _,_=>none
variable {op : BinOp} {x y : Value}
theorem gw {r:Bool}{v:AV}(h:n8 op r=some v)(c:(Op.equal t x y).run P w=.ok r w)(h1:binOp .eql t x y=(do pure (.bool (←Op.equal t x y))))(h2:binOp .neq t x y=(do pure (.bool (!(←Op.equal t x y))))):∃ z,(binOp op t x y).run P w=.ok z w∧VR g v z:=by
 cases op<;>simp only[n8,ba,reduceCtorEq] at h
 · subst h;exact⟨_,by rw[h1];simp[c],.sc rfl⟩
 · subst h;exact⟨_,by rw[h2];simp[c],.sc rfl⟩
variable {e : TypeId}
theorem Bd {a:Addr}(hu:P.underlying t=some (.pointer e)):(Op.equalIn (d+1) t (.pointer (some a)) (.pointer none)).run P w=.ok false w:=by
 simp[Op.equalIn,ah hu]
theorem J8 (hu:P.underlying t=some (.pointer e)):(Op.equalIn (d+1) t (.pointer none) (.pointer none)).run P w=.ok true w:=by
 simp[Op.equalIn,ah hu]
variable {v : Value}
theorem J9 {u:TypeId}{c:Array (String×TypeId)}(hu:P.underlying t=some (.interface c)):(Op.equalIn (d+1) t (.iface u v) .nilIface).run P w=.ok false w:=by
 simp[Op.equalIn,ah hu]
variable {xs : Array Value}
theorem Dg {a b c}{f:Fn}{ys:Array Value}(hu:P.underlying t=some (.func a b c)):(Op.equalIn (d+1) t (.func f xs ys) .nilFunc).run P w=.ok false w:=by
 simp[Op.equalIn,ah hu]
theorem U4 {a b c}(hu:P.underlying t=some (.func a b c)):(Op.equalIn (d+1) t .nilFunc .nilFunc).run P w=.ok true w:=by
 simp[Op.equalIn,ah hu]
variable {m : Nat}
theorem Ka {a b:TypeId}(hu:P.underlying t=some (.map a b)):(Op.equalIn (d+1) t (.map (some m)) (.map none)).run P w=.ok false w:=by
 simp[Op.equalIn,ah hu]
theorem RI {a b:TypeId}(hu:P.underlying t=some (.map a b)):(Op.equalIn (d+1) t (.map none) (.map none)).run P w=.ok true w:=by
 simp[Op.equalIn,ah hu]
theorem Ho (hu:P.underlying t=some (.slice e)):(Op.equalIn (d+1) t (.slice none 0 0) (.slice none 0 0)).run P w=.ok true w:=by
 simp[Op.equalIn,ah hu]
theorem uy {a:Addr}{n:Nat}(hu:P.underlying t=some (.slice e)):(Op.equalIn (d+1) t (.slice (some a) m n) (.slice none 0 0)).run P w=.ok false w:=by
 simp[Op.equalIn,ah hu]
variable {a r : AV}
theorem Mu {ox oy:Operand}{b:AV}(h:uP P op t a b=some r)(ha:VR g a x)(hb:VR g b y) :
   ∃ z,(eqGuard op t ox oy x y).run P w=.ok () w∧(binOp op t x y).run P w=.ok z w∧VR g r z:=by
 unfold uP at h
 split at h
 · rename_i k m k' n
   cases ha with | sc _=>?_
   cases hb with | sc _=>?_
   split at h
   · split at h<;>try (simp at h;done)
     rename_i v e
     split at h<;>simp only[ba,reduceCtorEq] at h
     rename_i i;subst h
     exact⟨v,wC,J7 e,.sc i⟩
   · split at h<;>try (simp at h;done)
     rename_i j;subst j
     split at h<;>try (simp at h;done)
     rename_i v e
     split at h<;>simp only[ba,reduceCtorEq] at h
     rename_i i;subst h
     exact⟨v,wC,OU e,.sc i⟩
 · cases ha with | sc _=>?_
   cases hb with | sc _=>?_
   split at h<;>try (simp at h;done)
   rename_i hu
   obtain⟨z,p,q⟩:=gw (P:=P) (w:=w) (g:=g) h (run_equalIn_bool' w 9999 t _ _ hu) (by simp[binOp]) (by simp[binOp])
   exact⟨z,by unfold eqGuard;split<;>simp,p,q⟩
 · cases ha with | sc _=>?_
   cases hb with | sc _=>?_
   split at h<;>try (simp at h;done)
   rename_i v e
   split at h<;>simp only[ba,reduceCtorEq] at h
   rename_i i;subst h
   refine⟨v,by unfold eqGuard;split<;>simp,?_,.sc i⟩
   cases op<;>simp only[Us,ba,reduceCtorEq] at e<;>(subst e;simp[binOp,Op.stringOp,ByteArray.toList_eq])
 · cases hb with | sc _=>?_
   cases ha with | ptr _=>?_
   split at h<;>try (simp at h;done)
   rename_i hu
   have c:=fun a=>Bd (P:=P) (w:=w) (d:=9999) (a:=a) hu
   obtain⟨z,p,q⟩:=gw (P:=P) (w:=w) (g:=g) h (c _) (by simp[binOp]) (by simp[binOp])
   exact⟨z,by unfold eqGuard;split<;>simp,p,q⟩
 · cases hb with | sc _=>?_
   cases ha with | dO _ _ _=>?_
   split at h<;>try (simp at h;done)
   rename_i hu
   have c:=fun a=>Bd (P:=P) (w:=w) (d:=9999) (a:=a) hu
   obtain⟨z,p,q⟩:=gw (P:=P) (w:=w) (g:=g) h (c _) (by simp[binOp]) (by simp[binOp])
   exact⟨z,by unfold eqGuard;split<;>simp,p,q⟩
 · cases hb with | sc _=>?_
   cases ha with | sc _=>?_
   split at h<;>try (simp at h;done)
   rename_i hu
   have c:=J8 (P:=P) (w:=w) (d:=9999) hu
   obtain⟨z,p,q⟩:=gw (P:=P) (w:=w) (g:=g) h c (by simp[binOp]) (by simp[binOp])
   exact⟨z,by unfold eqGuard;split<;>simp,p,q⟩
 · cases hb with | sc _=>?_
   cases ha with | eB _=>?_
   split at h<;>try (simp at h;done)
   rename_i hu
   have c:=fun u v=>J9 (P:=P) (w:=w) (d:=9999) (u:=u) (v:=v) hu
   obtain⟨z,p,q⟩:=gw (P:=P) (w:=w) (g:=g) h (c _ _) (by simp[binOp]) (by simp[binOp])
   exact⟨z,by unfold eqGuard;split<;>simp,p,q⟩
 · cases ha with | an=>?_
   cases hb with | an=>?_
   split at h<;>try (simp at h;done)
   rename_i hu
   have c:=Ho (P:=P) (w:=w) (d:=9999) hu
   obtain⟨z,p,q⟩:=gw (P:=P) (w:=w) (g:=g) h c (by simp[binOp]) (by simp[binOp])
   exact⟨z,by unfold eqGuard;split<;>simp,p,q⟩
 · cases hb with | an=>?_
   split at h<;>try (simp at h;done)
   rename_i hu
   have c:=fun a m n=>uy (P:=P) (w:=w) (d:=9999) (a:=a) (m:=m) (n:=n) hu
   cases ha with
   | ai _ _ _=>
     obtain⟨z,p,q⟩:=gw (P:=P) (w:=w) (g:=g) h (c _ _ _) (by simp[binOp]) (by simp[binOp])
     exact⟨z,by unfold eqGuard;split<;>simp,p,q⟩
   | hZ=>
     obtain⟨z,p,q⟩:=gw (P:=P) (w:=w) (g:=g) h (c _ _ _) (by simp[binOp]) (by simp[binOp])
     exact⟨z,by unfold eqGuard;split<;>simp,p,q⟩
 · cases hb with | an=>?_
   split at h<;>try (simp at h;done)
   rename_i hu
   have c:=fun a m n=>uy (P:=P) (w:=w) (d:=9999) (a:=a) (m:=m) (n:=n) hu
   cases ha with
   | lit _ _ _ _ _=>
     obtain⟨z,p,q⟩:=gw (P:=P) (w:=w) (g:=g) h (c _ _ _) (by simp[binOp]) (by simp[binOp])
     exact⟨z,by unfold eqGuard;split<;>simp,p,q⟩
 · cases hb with | sc _=>?_
   cases ha with | fn _ _ _ _=>?_
   split at h<;>try (simp at h;done)
   rename_i hu
   obtain⟨z,p,q⟩:=gw (P:=P) (w:=w) (g:=g) h (Dg (d:=9999) hu) (by simp[binOp]) (by simp[binOp])
   exact⟨z,by unfold eqGuard;split<;>simp,p,q⟩
 · cases hb with | sc _=>?_
   cases ha with | sj _=>?_
   split at h<;>try (simp at h;done)
   rename_i hu
   obtain⟨z,p,q⟩:=gw (P:=P) (w:=w) (g:=g) h (Dg (d:=9999) hu) (by simp[binOp]) (by simp[binOp])
   exact⟨z,by unfold eqGuard;split<;>simp,p,q⟩
 · cases hb with | sc _=>?_
   cases ha with | sc _=>?_
   split at h<;>try (simp at h;done)
   rename_i hu
   obtain⟨z,p,q⟩:=gw (P:=P) (w:=w) (g:=g) h (U4 (d:=9999) hu) (by simp[binOp]) (by simp[binOp])
   exact⟨z,by unfold eqGuard;split<;>simp,p,q⟩
 · cases hb with | sc _=>?_
   cases ha with | cR _=>?_
   split at h<;>try (simp at h;done)
   rename_i hu
   obtain⟨z,p,q⟩:=gw (P:=P) (w:=w) (g:=g) h (Ka (d:=9999) hu) (by simp[binOp]) (by simp[binOp])
   exact⟨z,by unfold eqGuard;split<;>simp,p,q⟩
 · cases hb with | sc _=>?_
   cases ha with | sc _=>?_
   split at h<;>try (simp at h;done)
   rename_i hu
   obtain⟨z,p,q⟩:=gw (P:=P) (w:=w) (g:=g) h (RI (d:=9999) hu) (by simp[binOp]) (by simp[binOp])
   exact⟨z,by unfold eqGuard;split<;>simp,p,q⟩
 · rename_i xs ys
   cases ha with | agg l1 h1=>?_
   rename_i l
   cases hb with | agg l2 h2=>?_
   rename_i o
   split at h<;>try (simp at h;done)
   rename_i fs hu
   split at h<;>try (simp at h;done)
   rename_i hs
   rw[Bool.or_eq_false_iff] at hs
   split at h<;>try (simp at h;done)
   rename_i r e
   have hf:P.fieldsOf t=fs:=by simp[Program.fieldsOf,hu]
   have c:(Op.equal t (.agg l) (.agg o)).run P w=.ok r w:=by
     simp only[Op.equal,Op.maxDepth]
     rw[run_equalIn_struct (P:=P) w 9999 t _ _ (by rw[hf];exact hu) hs.1,hf]
     exact U3 (d:=9998) ⟨l1,h1⟩ ⟨l2,h2⟩ e
   obtain⟨z,p,q⟩:=gw (P:=P) (w:=w) (g:=g) h c (by simp[binOp]) (by simp[binOp])
   exact⟨z,run_eqGuard_agg w op t ox oy _ _ hs.2,p,q⟩
 · simp at h
def Tj (op:UnOp)(a:AV):Option AV:=
 match op,a with
 | .not,.sc (.bool b)=>some (.sc (.bool (!b)))
 | .neg,.sc (.int k n)=>some (.sc (.int k (k.wrap (0-n))))
 | _,_=>none
theorem OV {op:UnOp}(h:Tj op a=some r)(ha:VR g a x):∃ z,(Op.unary op x).run P w=.ok z w∧VR g r z:=by
 unfold Tj at h
 split at h<;>simp only[ba,reduceCtorEq] at h
 · subst h;cases ha with | sc _=>exact⟨_,by simp[Op.unary],.sc rfl⟩
 · subst h;cases ha with | sc _=>exact⟨_,by simp[Op.unary,Op.intArith],.sc rfl⟩
def Fx (P:Program)(c h:TypeId)(a:AV):Option AV:=
 match P.underlying c,P.underlying h,a with
 | some (.int _),some (.int k),.sc (.int _ n)=>some (.sc (.int k (k.wrap n)))
 | _,_,_=>none
theorem Kb {c i:TypeId}(h:Fx P c i a=some r)(ha:VR g a x):∃ z,(convert c i x).run P w=.ok z w∧VR g r z:=by
 unfold Fx at h
 split at h<;>simp only[ba,reduceCtorEq] at h
 rename_i h1 h2
 subst h;cases ha with | sc _=>exact⟨_,by simp_all[convert,ah,Conv.intToInt],.sc rfl⟩
def Fy (P:Program)(t:TypeId)(cs:List AV)(off:Nat):Option AV:=
 match Rk P t with
 | some true=>match tw P t with
   | some n=>match Nat.ble (off+n) cs.length with
     | true=>some (.agg ((cs.drop off).take n))
     | false=>none
   | none=>none
 | some false=>nth cs off
 | none=>none
theorem vX {cs:List AV}{off:Nat}(h:Fy P t cs off=some r)(j:hM g cs xs) :
   ∃ z,(part t xs off).run P w=.ok z w∧VR g r z:=by
 unfold Fy at h
 split at h
 · rename_i ha
   split at h<;>try (simp at h;done)
   rename_i n l
   split at h<;>simp only[ba,reduceCtorEq] at h
   rename_i c
   have c:=gb c
   subst h
   refine⟨.agg (xs.extract off (off+n)),by simp[part,rY ha,run_sizeOf l],.agg ?_ ?_⟩
   · have:=j.1;simp;omega
   · intro k a x e i
     rw[sx] at e
     split at e
     · rw[su] at e
       rw[Fv] at i
       split at i
       · exact j.2 _ a x e i
       · simp at i
     · simp at e
 · rename_i ha
   rw[j8] at h
   obtain⟨x,e,o⟩:=j.get h
   exact⟨x,by simp[part,rY ha,e],o⟩
 · simp at h
def ED (P:Program)(xt:TypeId)(a:AV)(f:Nat):Option AV:=
 match P.underlying xt,a with
 | some (.struct fs),.agg cs=>match nth fs.toList f with
   | some d=>Fy P d.type cs d.offset
   | none=>none
 | _,_=>none
variable {f : Nat}
theorem Hp {xt:TypeId}(h:ED P xt a f=some r)(ha:VR g a x):∃ z,(Instr.field xt x f).run P w=.ok z w∧VR g r z:=by
 unfold ED at h
 split at h<;>try (simp at h;done)
 rename_i fs cs hu
 split at h<;>try (simp at h;done)
 rename_i d c
 rw[j8] at c
 have j:fs[f]? = some d:=by simpa using c
 cases ha with
 | agg i hh=>
   obtain⟨z,e,l⟩:=vX (P:=P) (w:=w) h ⟨i,hh⟩
   simp_all[Instr.field,ah,asAgg]
def tP (P:Program)(s:TypeId)(a:AV)(f:Nat):Option AV:=
 match P.underlying s with
 | some (.struct fs)=>match nth fs.toList f with
   | some d=>match tw P d.type with
     | some (_+1)=>match a with
       | .ptr id i j=>some (.ptr id i (j+d.offset))
       | .dO cs=>match Nat.ble d.offset cs.length with
         | true=>some (.dO (cs.drop d.offset))
         | false=>none
       | _=>none
     | _=>none
   | none=>none
 | _=>none
theorem By {s:TypeId}(h:tP P s a f=some r)(ha:VR g a x):∃ z,(Instr.fieldAt s x f).run P w=.ok z w∧VR g r z:=by
 unfold tP at h
 split at h<;>try (simp at h;done)
 rename_i fs hu
 split at h<;>try (simp at h;done)
 rename_i d i
 rw[j8] at i
 have u:fs[f]? = some d:=by simpa using i
 split at h<;>try (simp at h;done)
 rename_i n A
 have key:∀ b o,(Instr.fieldAt s (.pointer (some ⟨b,o,none⟩)) f).run P w=.ok (.pointer (some ⟨b,o+d.offset,none⟩)) w:=by
   simp_all[Instr.fieldAt,ah,Instr.sureAddr,fieldPlace,run_sizeOf,Addr.om]
 split at h
 · simp only[ba] at h;subst h
   cases ha with
   | ptr l=>exact⟨_,key _ _,by rw[Nat.add_assoc];exact .ptr l⟩
 · split at h<;>simp only[ba,reduceCtorEq] at h
   rename_i c
   have c:=gb c
   subst h
   cases ha with
   | dO p hb hh=>
     refine⟨_,key _ _,.dO p (by simp;omega) ?_⟩
     intro j a y e q
     rw[su] at e
     exact hh _ a y e (by rw[←q];congr 1;omega)
 · simp at h
def dQ (P:Program)(S:ag)(t:TypeId)(a c:AV):Option AV:=
 match c with
 | .sc (.int _ (.ofNat k))=>match P.underlying t with
   | some (.slice el)=>match tw P el with
     | some n=>match a with
       | .ai id off len=>match Nat.ble (k+1) len with
         | true=>match S.get id with
           | some (.arr sz _)=>match Nat.beq sz n with
             | true=>some (.ptr id (off+k) 0)
             | false=>none
           | _=>none
         | false=>none
       | .lit es=>match nth es k with
         | some e=>match Nat.beq e.cells.length n with
           | true=>some (.dO e.cells)
           | false=>none
         | none=>none
       | _=>none
     | none=>none
   | some (.array len el)=>match tw P el with
     | some n=>match Nat.ble (k+1) len with
       | true=>match a with
         | .ptr id i j=>some (.ptr id i (j+k*n))
         | .dO cs=>match Nat.ble (k*n) cs.length with
           | true=>some (.dO (cs.drop (k*n)))
           | false=>none
         | _=>none
       | false=>none
     | none=>none
   | _=>none
 | _=>none
theorem tZ {S:ag}(hi:Inv S g w){F:AV}(h:dQ P S t a F=some r)(ha:VR g a x)(hx:VR g F y) :
   ∃ z,(Instr.indexAt t x y).run P w=.ok z w∧VR g r z:=by
 unfold dQ at h
 split at h<;>try (simp at h;done)
 rename_i G k
 cases hx with | sc _=>?_
 split at h<;>try (simp at h;done)
 · rename_i el hu
   split at h<;>try (simp at h;done)
   rename_i n C
   have key:∀ b o len cap,k<len→(Instr.indexAt t (.slice (some ⟨b,o,none⟩) len cap) (.int G (.ofNat k))).run P w=.ok (.pointer (some ⟨b,o+k*n,none⟩)) w:=by
     intro b o len cap s
     simp only[Instr.indexAt,asIntOf,Sem.run_bind,Sem.run_pure,Result.andThen_ok,ah hu]
     rw[if_pos (by constructor<;>simp;omega)]
     simp[run_sizeOf C,Addr.om]
   split at h
   · rename_i id off len
     split at h<;>try (simp at h;done)
     rename_i s
     have s:=gb s
     split at h<;>try (simp at h;done)
     rename_i sz es J
     split at h<;>simp only[ba,reduceCtorEq] at h
     rename_i i
     have i:=np i
     subst h
     cases ha with
     | hZ=>omega
     | ai A N hb=>
       rename_i cap l
       obtain⟨l', D,q2,q3⟩:=hi.ob _ _ J
       rw[A] at D;simp only[ba] at D;subst D
       obtain⟨c,O,Q,R,K,T,U,V⟩:=q3
       refine⟨_,key _ _ _ _ (by omega),?_⟩
       have:l.base+off*l.sz+k*n=l.base+(off+k)*l.sz+0:=by rw[K,i,fV];omega
       exact this ▸ .ptr A
   · rename_i es
     split at h<;>try (simp at h;done)
     rename_i e B
     rw[j8] at B
     have p:k<es.length:=(lr.1 B).1
     split at h<;>simp only[ba,reduceCtorEq] at h
     rename_i i
     have i:=np i
     subst h
     cases ha with
     | lit E hs hb I hh=>
       rename_i b o sz cap c
       have H:=hs e (uI B)
       refine⟨_,key _ _ _ _ p,.dO E ?_ ?_⟩
       · have:k*sz+sz≤es.length*sz:=by
          have:(k+1)*sz≤es.length*sz:=xY _ p
          rw[mM] at this;exact this
         rw[i,←i,H];omega
       · intro j a z q L
         exact hh k j e a z B q (by rw[←L,←i,H])
     | jZ=>simp at p
   · simp at h
 · rename_i len el hu
   split at h<;>try (simp at h;done)
   rename_i n C
   split at h<;>try (simp at h;done)
   rename_i s
   have s:=gb s
   have key:∀ b o,(Instr.indexAt t (.pointer (some ⟨b,o,none⟩)) (.int G (.ofNat k))).run P w=.ok (.pointer (some ⟨b,o+k*n,none⟩)) w:=by
     intro b o
     simp only[Instr.indexAt,asIntOf,Sem.run_bind,Sem.run_pure,Result.andThen_ok,ah hu,Instr.sureAddr]
     rw[if_pos (by constructor<;>simp;omega)]
     simp[run_sizeOf C,Addr.om]
   split at h
   · simp only[ba] at h;subst h
     cases ha with
     | ptr A=>exact⟨_,key _ _,by rw[Nat.add_assoc];exact .ptr A⟩
   · split at h<;>simp only[ba,reduceCtorEq] at h
     rename_i u
     have u:=gb u
     subst h
     cases ha with
     | dO E hb hh=>
       refine⟨_,key _ _,.dO E (by simp;omega) ?_⟩
       intro j a y e M
       rw[su] at e
       exact hh _ a y e (by rw[←M];congr 1;omega)
   · simp at h
end
noncomputable section
def wo : AV→Option Nat
 | .sc (.int _ (.ofNat k))=>some k
 | _=>none
variable {g : Gh} {a : AV} {x : Value}
theorem ib {k:Nat}(h:wo a=some k)(b:VR g a x):∃ c,x=.int c (.ofNat k):=by
 unfold wo at h
 split at h<;>simp only[ba,reduceCtorEq] at h
 subst h;cases b<;>simp_all
def Lc (d:Nat):Option AV→Option Nat
 | none=>some d
 | some a=>wo a
def aaa (s:ByteArray)(l h:Nat):ByteArray:=⟨((s.data.toList.take h).drop l).toArray⟩
theorem Yb (s:ByteArray)(l h:Nat):aaa s l h=s.extract l h:=by
 apply ByteArray.ext
 rw[ByteArray.data_extract]
 apply Array.ext'
 simp[aaa,List.drop_take]
def TZ (a:AV)(lo hi:Option AV):Option AV:=
 match a with
 | .sc (.string s)=>match Lc 0 lo,Lc s.size hi with
   | some l,some h=>match Nat.ble l h&&Nat.ble h s.size with
     | true=>some (.sc (.string (aaa s l h)))
     | false=>none
   | _,_=>none
 | _=>none
def Ut (S:ag)(id off l h n:Nat):Option AV:=
 match S.get id with
 | some (.arr sz es)=>match Nat.beq sz n&&Nat.ble l h&&Nat.ble 1 n&&Nat.ble (off+h) es.length with
   | true=>some (.ai id (off+l) (h-l))
   | false=>none
 | _=>none
def vH (P:Program)(S:ag)(t:TypeId)(a:AV)(lo hi:Option AV):Option AV:=
 match P.underlying t with
 | some (.slice el)=>match tw P el,a with
   | some n,.ai id off len=>match Lc 0 lo,Lc len hi with
     | some l,some h=>match Nat.ble l h&&Nat.ble h len with
       | true=>match S.get id with
         | some (.arr sz _)=>match Nat.beq sz n with
           | true=>some (.ai id (off+l) (h-l))
           | false=>none
         | _=>none
       | false=>Ut S id off l h n
     | _,_=>none
   | some n,.lit es=>match Lc 0 lo,Lc es.length hi with
     | some l,some h=>match Nat.ble l h&&Nat.ble h es.length&&es.all (fun e=>Nat.beq e.cells.length n) with
       | true=>some (.lit ((es.take h).drop l))
       | false=>none
     | _,_=>none
   | some _,.an=>match Lc 0 lo,Lc 0 hi with
     | some 0,some 0=>some .an
     | _,_=>none
   | some _,.fw=>match Lc 0 lo,Lc 0 hi with
     | some 0,some 0=>some .fw
     | _,_=>none
   | _,_=>none
 | some .string=>TZ a lo hi
 | _=>none
variable {P : Program} {w : World}
theorem run_sliceBound {k:IntKind}{n y:Nat}{c:BoundsCode}(h:n≤y):(Instr.sliceBound (.int k (.ofNat n)) y c).run P w=.ok n w:=by
 simp_all[Instr.sliceBound,asIntOf]
variable {h : Nat} {lo hi : Option AV} {lx hx : Option Value}
theorem wD {b:Bool}{len cap l:Nat}(d:Lc 0 lo=some l)(hh:Lc len hi=some h)(h1:l≤h)(h2:h≤cap)(f:∀ a x,lo=some a→lx=some x→VR g a x)(i:∀ a x,hi=some a→hx=some x→VR g a x)(el:lo.isSome=lx.isSome)(e:hi.isSome=hx.isSome) :
  (Instr.sliceBounds b len cap lx hx none).run P w=.ok (l,h,cap) w:=by
 have j:(hx=none∧len=h)∨∃ c,hx=some (.int c (.ofNat h)):=by
  cases hi with
  | none=>
    cases hx with
    | none=>simp only[Lc,ba] at hh;exact .inl ⟨rfl,hh⟩
    | some x=>simp at e
  | some a=>
    cases hx with
    | none=>simp at e
    | some x=>obtain⟨c,rfl⟩:=ib hh (i a x rfl rfl);exact .inr ⟨c,rfl⟩
 have k:(lx=none∧0=l)∨∃ c,lx=some (.int c (.ofNat l)):=by
  cases lo with
  | none=>
    cases lx with
    | none=>simp only[Lc,ba] at d;exact .inl ⟨rfl,d⟩
    | some x=>simp at el
  | some a=>
    cases lx with
    | none=>simp at el
    | some x=>obtain⟨c,rfl⟩:=ib d (f a x rfl rfl);exact .inr ⟨c,rfl⟩
 rcases j with⟨rfl,rfl⟩ | ⟨c,rfl⟩<;>rcases k with⟨rfl,rfl⟩ | ⟨m,rfl⟩ <;>
  simp only[Instr.sliceBounds,Sem.run_bind,Sem.run_pure,Result.andThen_ok,run_sliceBound h1,run_sliceBound h2]
variable {t : TypeId} {r : AV}
theorem Mv (hu:P.underlying t=some .string)(h:TZ a lo hi=some r)(ha:VR g a x)(c:∀ a x,lo=some a→lx=some x→VR g a x)(d:∀ a x,hi=some a→hx=some x→VR g a x)(el:lo.isSome=lx.isSome)(e:hi.isSome=hx.isSome) :
   ∃ z,(Instr.sliceAt t x lx hx none).run P w=.ok z w∧VR g r z:=by
 unfold TZ at h
 split at h<;>try (simp at h;done)
 rename_i s
 split at h<;>try (simp at h;done)
 rename_i l hh f i
 split at h<;>simp only[ba,reduceCtorEq] at h
 rename_i b
 simp only[aY] at b
 subst h
 cases ha with
 | sc _=>
   refine⟨.string (s.extract l hh),?_,by rw[Yb];exact .sc rfl⟩
   simp only[Instr.sliceAt,Sem.run_bind,ah hu,Result.andThen_ok,Instr.slice,Option.isSome_none,dL,if_false,Sem.run_pure]
   rw[wD f i (gb b.1) (gb b.2) c d el e]
   simp
theorem Hq {S:ag}(M:Inv S g w)(h:vH P S t a lo hi=some r)(ha:VR g a x)(R:∀ a x,lo=some a→lx=some x→VR g a x)(T:∀ a x,hi=some a→hx=some x→VR g a x)(el:lo.isSome=lx.isSome)(U:hi.isSome=hx.isSome) :
   ∃ z,(Instr.sliceAt t x lx hx none).run P w=.ok z w∧VR g r z:=by
 unfold vH at h
 split at h
 case h_2 hu=>exact Mv hu h ha R T el U
 case h_3=>simp at h
 rename_i N hu
 have key:∀(b:Option Addr) (len cap l hh n:Nat),tw P N=some n→Lc 0 lo=some l→Lc len hi=some hh→l≤hh→hh≤cap →
     (Instr.sliceAt t (.slice b len cap) lx hx none).run P w=.ok (.slice (if cap=l then b else b.map (·.add (l*n))) (hh-l) (cap-l)) w:=by
   intro b len cap l hh n q s p X Y
   simp only[Instr.sliceAt,Sem.run_bind,ah hu,Result.andThen_ok,Instr.slice]
   rw[wD s p X Y R T el U]
   simp[run_sizeOf q]
 split at h<;>try (simp at h;done)
 · rename_i n id off len q
   split at h<;>try (simp at h;done)
   rename_i l hh s p
   have fin:∀(sz:Nat) (es:List AV),S.get id=some (.arr sz es)→sz=n→l≤hh→(hh≤len∨(1≤n∧off+hh≤es.length))→r=.ai id (off+l) (hh-l) →
       ∃ z,(Instr.sliceAt t x lx hx none).run P w=.ok z w∧VR g r z:=by
     intro sz es E d c1 c2 J
     subst J
     obtain⟨V,C,q2,q3⟩:=M.ob _ _ E
     obtain⟨c,t', p1,Z,K,p4,p5,p6⟩:=q3
     have v:1≤n∧off+hh≤es.length→V.base+(off+hh)*n≤V.bz:=by
       intro k
       have:(off+hh)*n≤es.length*n:=xY _ k.2
       rw[←Z];rw[d] at p4;omega
     cases ha with
     | hZ D u=>
       rw[D] at C;simp only[ba] at C;subst C
       have O:hh=0:=by
         rcases c2 with k | k
         · omega
         · have h1:=v k
           rw[K,d] at u
           rw[fV] at h1
           have h2:hh*1≤hh*n:=Nat.mul_le_mul_left _ k.1
           omega
       have:l=0:=by omega
       subst this;subst O
       refine⟨_,key _ 0 0 0 0 n q s p (bJ _) (bJ _),?_⟩
       simp only[if_true,Nat.sub_zero]
       exact .hZ D u
     | ai D G hb=>
       rename_i cap H
       rw[D] at C;simp only[ba] at C;subst C
       have Q:hh≤cap:=by
         rcases c2 with k | k
         · omega
         · have h1:=v k
           rw[K,d] at hb
           have h2:(off+hh)*n≤(off+cap)*n:=by omega
           have:=Nat.le_of_mul_le_mul_right h2 k.1
           omega
       refine⟨_,key _ len cap l hh n q s p c1 Q,?_⟩
       by_cases A:cap=l
       · rw[if_pos A]
         have z1:hh-l=0:=by omega
         have z2:cap-l=0:=by omega
         rw[z1,z2];exact .hZ D (by rw[←A];exact hb)
       · rw[if_neg A]
         simp only[j9,Addr.om]
         have:H.base+off*H.sz+l*n=H.base+(off+l)*H.sz:=by rw[K,d,fV];omega
         rw[this]
         exact .ai D (by omega) (by rw[show off+l+(cap-l)=off+cap from by omega];exact hb)
   split at h
   · rename_i m
     simp only[aY] at m
     split at h<;>try (simp at h;done)
     rename_i sz es E
     split at h<;>simp only[ba,reduceCtorEq] at h
     rename_i d
     exact fin sz es E (np d) (gb m.1) (.inl (gb m.2)) h.symm
   · unfold Ut at h
     split at h<;>try (simp at h;done)
     rename_i sz es E
     split at h<;>simp only[ba,reduceCtorEq] at h
     rename_i m
     simp only[aY] at m
     exact fin sz es E (np m.1.1.1) (gb m.1.1.2) (.inr ⟨gb m.1.2,gb m.2⟩) h.symm
 · rename_i n es q
   split at h<;>try (simp at h;done)
   rename_i l hh s p
   split at h<;>simp only[ba,reduceCtorEq] at h
   rename_i m
   simp only[aY] at m
   have c1:=gb m.1.1
   have c2:=gb m.1.2
   have c3:=dh.1 m.2
   subst h
   have f:((es.take hh).drop l).length=hh-l:=by simp;omega
   cases ha with
   | jZ=>
     simp only[Oh] at p c2
     rename_i b cap
     have u:hh=0:=by omega
     have lz:l=0:=by omega
     subst u;subst lz
     exact⟨_,key _ 0 cap 0 0 n q s p (bJ _) (bU _),by simp;exact .jZ⟩
   | lit J hs hb G B=>
     rename_i b o sz cap c
     refine⟨_,key _ es.length cap l hh n q s p c1 (by omega),?_⟩
     by_cases u:(es.take hh).drop l=[]
     · rw[u]
       have:hh-l=0:=by rw[←f,u];rfl
       rw[this];exact .jZ
     · have W:l<hh:=by
         rcases jT l hh with k | k
         · exact k
         · exfalso;apply u;apply vA;rw[f];omega
       have d:n=sz:=by
         obtain⟨e,L⟩:=List.exists_mem_of_ne_nil _ u
         have F:e∈es:=uq (FA L)
         rw[←hs e F,np (c3 e F)]
       subst d
       rw[if_neg (by omega)]
       simp only[j9,Addr.om]
       rw[show hh-l=((es.take hh).drop l).length from f.symm]
       refine .lit J (sz:=n) ?_ ?_ ?_ ?_
       · intro e L;exact hs e (uq (FA L))
       · rw[f]
         have:l*n+(hh-l)*n≤es.length*n:=by rw[←fV];exact xY _ (by omega)
         omega
       · rw[f];omega
       · intro i j e aa y I f2 f3
         rw[su,sx] at I
         split at I
         · refine B (l+i) j e aa y I f2 ?_
           rw[←f3];congr 1;rw[fV];omega
         · simp at I
 · rename_i n q
   split at h<;>simp only[ba,reduceCtorEq] at h
   rename_i s p
   subst h
   cases ha with | an=>?_
   exact⟨_,key none 0 0 0 0 n q s p (bJ _) (bJ _),by simp;exact .an⟩
 · rename_i n q
   split at h<;>simp only[ba,reduceCtorEq] at h
   rename_i s p
   subst h
   cases ha with | fw=>?_
   exact⟨_,key _ 0 0 0 0 n q s p (bJ _) (bJ _),by simp;exact .fw⟩
theorem Addr.Hr (a:Addr):a.add 0=a:=by
 simp_all[Addr.add]
def zd : AV→Nat→Option AV
 | .ai id off len,h=>match Nat.ble h len with
   | true=>some (.ai id off h)
   | false=>none
 | .lit es,h=>match Nat.ble h es.length with
   | true=>some (.lit (es.take h))
   | false=>none
 | .an,0=>some .an
 | .fw,0=>some .fw
 | _,_=>none
theorem Dh (e:zd a h=some r)(l:VR g a x):∃ b n cap,x=.slice b n cap∧n≤cap∧h≤n∧VR g r (.slice b h cap):=by
 cases a with
 | ai id off len=>
   simp only[zd] at e
   cases d:Nat.ble h len with
   | false=>simp_all
   | true=>
     rw[d] at e;simp only[ba] at e
     have d:=gb d
     subst e
     cases l with
     | hZ f p=>
       have:h=0:=by omega
       subst this
       exact⟨_,_,_,rfl,bJ _,bJ _,.hZ f p⟩
     | ai f q hb=>exact⟨_,_,_,rfl,q,d,.ai f (by omega) hb⟩
 | lit es=>
   simp only[zd] at e
   cases d:Nat.ble h es.length with
   | false=>rw[d] at e;simp at e
   | true=>
     rw[d] at e;simp only[ba] at e
     have d:=gb d
     subst e
     cases l with
     | jZ=>
       have:h=0:=by simpa using d
       subst this
       exact⟨_,_,_,rfl,bU _,bJ _,by simpa using VR.jZ⟩
     | lit s hs hb k hh=>
       rename_i b o sz cap c
       have f:(es.take h).length=h:=by simp;omega
       have key:=VR.lit (g:=g) (es:=es.take h) (cap:=cap) s (sz:=sz) (fun e u=>hs e (uq u)) (lH (Nat.add_le_add_left (xY _ (by omega)) _) hb) (by omega)
        (fun i j e a x m v y=>by
         rw[sx] at m
         split at m
         · exact hh i j e a x m v y
         · simp at m)
       rw[f] at key
       exact⟨_,_,_,rfl,k,d,key⟩
 | an=>
   cases h with
   | zero=>
     simp only[zd,ba] at e;subst e
     cases l with | an=>exact⟨_,_,_,rfl,bJ _,bJ _,.an⟩
   | succ h=>simp[zd] at e
 | fw=>
   cases h with
   | zero=>
     simp only[zd,ba] at e;subst e
     cases l with | fw=>exact⟨_,_,_,rfl,bJ _,bJ _,.fw⟩
   | succ h=>simp[zd] at e
 | _=>simp[zd] at e
def Jw (P:Program)(t:TypeId)(a hi mx:AV):Option AV:=
 match P.underlying t with
 | some (.slice el)=>match tw P el,wo hi,wo mx with
   | some _,some h,some m=>match Nat.beq h m with
     | true=>match zd a h with
       | some r=>some (.clip r)
       | none=>none
     | false=>none
   | _,_,_=>none
 | _=>none
variable {mx : AV} {mxx : Value}
theorem Kc {hi:AV}{hx:Value}(h:Jw P t a hi mx=some r)(ha:VR g a x)(f:VR g hi hx)(i:VR g mx mxx) :
  ∃ z,(Instr.sliceAt t x none (some hx) (some mxx)).run P w=.ok z w∧VR g r z:=by
 unfold Jw at h
 split at h<;>try (simp at h;done)
 rename_i q hu
 split at h<;>try (simp at h;done)
 rename_i sz hh m d j k
 split at h<;>try (simp at h;done)
 rename_i l
 have c1:=np l
 subst c1
 split at h<;>simp only[ba,reduceCtorEq] at h
 rename_i r o
 subst h
 obtain⟨b,n,cap,rfl,c,p,e⟩:=Dh o ha
 obtain⟨k1,rfl⟩:=ib j f
 obtain⟨k2,rfl⟩:=ib k i
 refine⟨.slice b hh hh,?_,.clip e⟩
 simp only[Instr.sliceAt,Sem.run_bind,ah hu,Result.andThen_ok,Instr.slice,Instr.sliceBounds,Sem.run_pure,run_sliceBound (lH p c),run_sliceBound (bJ hh),run_sizeOf d]
 simp_all[Addr.Hr]
def Qg (P:Program)(t:TypeId)(a lo hi mx:AV):Option AV:=
 match P.underlying t with
 | some (.slice el)=>match tw P el,wo lo,wo hi,wo mx with
   | some _,some l,some h,some m=>match Nat.ble l h&&Nat.ble h m,zd a m with
     | true,some _=>some .top
     | _,_=>none
   | _,_,_,_=>none
 | _=>none
theorem Mw {lo hi:AV}{lx hx:Value}(h:Qg P t a lo hi mx=some r)(ha:VR g a x)(f:VR g lo lx)(i:VR g hi hx)(j:VR g mx mxx) :
  ∃ z,(Instr.sliceAt t x (some lx) (some hx) (some mxx)).run P w=.ok z w∧VR g r z:=by
 unfold Qg at h
 split at h<;>try (simp at h;done)
 rename_i u hu
 split at h<;>try (simp at h;done)
 rename_i sz l hh m e k o p
 split at h<;>simp only[ba,reduceCtorEq] at h
 rename_i y d q
 simp only[aY] at d
 subst h
 obtain⟨b,n,cap,rfl,c,s,v⟩:=Dh q ha
 obtain⟨A,rfl⟩:=ib k f
 obtain⟨k1,rfl⟩:=ib o i
 obtain⟨k2,rfl⟩:=ib p j
 refine⟨.slice (if m=l then b else b.map (·.add (l*sz))) (hh-l) (m-l),?_,.top⟩
 simp only[Instr.sliceAt,Sem.run_bind,ah hu,Result.andThen_ok,Instr.slice,Instr.sliceBounds,Sem.run_pure,run_sliceBound (lH s c),run_sliceBound (gb d.2),run_sliceBound (gb d.1),run_sizeOf e]
end
noncomputable section
def Tk (v:Value):AV:=
 match Lk v with
 | true=>.sc v
 | false=>match v with
   | .slice none 0 0=>.an
   | .func f ⟨[]⟩ ⟨[]⟩=>.fn f [] []
   | _=>.top
def ajY (v:Value):AV:=
 match v with
 | .agg cs=>.agg (cs.toList.map Tk)
 | .tuple a=>.bO (a.toList.map Tk)
 | v=>Tk v
theorem zJ (g:Gh)(v:Value):VR g (Tk v) v:=by
 unfold Tk
 cases h:Lk v with
 | true=>exact .sc h
 | false=>
   dsimp only
   split
   · exact .an
   · exact .fn rfl rfl (fun k a x e=>by simp at e) (fun k a x e=>by simp at e)
   · exact .top
theorem u4 (g:Gh)(v:Value):VR g (ajY v) v:=by
 unfold ajY
 split
 · rename_i cs
   refine .agg (by simp) fun k a x e b=>?_
   simp only[pw,vB,b,j9,ba] at e
   subst e;exact zJ g x
 · rename_i cs
   refine .bO (by simp) fun k a x e b=>?_
   simp only[pw,vB,b,j9,ba] at e
   subst e;exact zJ g x
 · exact zJ g v
def ja (P:Program)(t:TypeId):Option AV:=
 match P.info? t with
 | some i=>match i.zero with
   | some z=>some (ajY z)
   | none=>none
 | none=>none
variable {P : Program} {w : World} {g : Gh} {t : TypeId}
theorem jM {a:AV}(h:ja P t=some a):∃ z,(zeroValue t).run P w=.ok z w∧VR g a z:=by
 unfold ja at h
 split at h<;>try (simp at h;done)
 rename_i i hi
 split at h<;>simp only[ba,reduceCtorEq] at h
 rename_i z b
 subst h
 simp_all[zeroValue,cY,u4]
theorem hM.mS {g:Gh}{l ys:List AV}{xs c:Array Value}(h:hM g l xs)(f:hM g ys c){n:Nat}(i:n+ys.length≤l.length):hM g (mS l n ys) (Eng.mS xs.toList n c.toList).toArray:=by
 have h1:=h.1
 have h2:=f.1
 refine⟨by simp[gC,h1],fun k a x e b=>?_⟩
 rw[q9,iH _ _ _ (by simp;omega)] at b
 rw[iH _ _ _ i] at e
 rw[show c.toList.length=ys.length from by simp[h2]] at b
 split at e
 · rename_i d;rw[if_pos d] at b;exact f.2 _ a x e (by simpa using b)
 · rename_i d;rw[if_neg d] at b;exact h.2 _ a x e (by simpa using b)
theorem IE (off:Nat):∀(l:List Value) (k:Nat) (c:Array Value),off+k+l.length≤c.size →
   (l.zipIdx k).foldl (fun cs (x:Value×Nat)=>cs.setIfInBounds (off+x.2) x.1) c=(mS c.toList (off+k) l).toArray:=by
 intro l
 induction l with
 | nil=>intro k c _;simp[mS]
 | cons v l b=>
   intro k c a
   simp only[List.zipIdx_cons,List.foldl_cons]
   rw[b (k+1) _ (by simp at a ⊢;omega)]
   congr 1
   apply zz
   intro i
   rw[iH _ _ _ (by simp at a ⊢;omega),iH _ _ _ (by omega)]
   simp only[Array.toList_setIfInBounds,List.getElem?_set,lI,xh]
   simp only[lI] at a
   by_cases hi:i=off+k
   · subst hi
     rw[if_neg (by omega),if_pos rfl,if_pos (by omega),if_pos (by omega)]
     simp
   · by_cases h2:off+(k+1)≤i∧i<off+(k+1)+l.length
     · rw[if_pos h2,if_pos (by omega),show i-(off+k)=(i-(off+(k+1)))+1 from by omega,q8]
     · rw[if_neg h2,if_neg (by omega),if_neg (by omega)]
def B8 (place:Nat→Option (Nat×Nat)):List AV→List (Nat×AV)→Option (List AV)
 | cs,[]=>some cs
 | cs,(i,v)::r=>match place i with
   | some (off,size)=>match Nat.beq v.cells.length size&&Nat.ble (off+v.cells.length) cs.length&&v.cells.all eI with
     | true=>B8 place (mS cs off v.cells) r
     | false=>none
   | none=>none
inductive xi (g : Gh) : List (Nat × AV) → List (Nat × Value) → Prop
 | nil : xi g [] []
 | cons {i : Nat} {v : AV} {x : Value} {ps : List (Nat × AV)} {xs : List (Nat × Value)} (hv : VR g v x) (ht : xi g ps xs) : xi g ((i, v) :: ps) ((i, x) :: xs)
variable {ps : List (Nat × AV)} {xs : List (Nat × Value)}
theorem Be {place:Nat→Option (Nat×Nat)}(f:xi g ps xs):∀ {cs r:List AV} {c:Array Value},B8 place cs ps=some r→hM g cs c →
   ∃ c', Instr.fill place c xs=some c' ∧ hM g r c' := by
 induction f with
 | nil=>intro cs r c h d;simp only[B8,ba] at h;subst h;exact⟨c,rfl,d⟩
 | cons j o k=>
   rename_i i v y ps xs
   intro cs r c h d
   simp only[B8] at h
   split at h<;>try (simp at h;done)
   rename_i off size e
   split at h<;>try (simp at h;done)
   rename_i a
   simp only[aY] at a
   have p:=np a.1.1
   have q2:=gb a.1.2
   have b:=kb j a.2
   have k1:=b.1
   have k2:=d.1
   obtain⟨c', l,m⟩:=k (c:=(Eng.mS c.toList off y.cells.toList).toArray) h (d.mS b q2)
   refine⟨c', ?_,m⟩
   simp only[Instr.fill,e]
   rw[if_neg (by simp;omega)]
   rw[←l]
   congr 1
   have:=IE off y.cells.toList 0 c (by simp;omega)
   rw[xj] at this
   rw[←this,←Array.foldl_toList]
   simp
def akw (P:Program)(t:TypeId):Option (Nat→Option (Nat×Nat)):=
 match P.underlying t with
 | some (.struct fs)=>some fun i=>match nth fs.toList i with
   | some f=>match tw P f.type with
     | some n=>some (f.offset,n)
     | none=>none
   | none=>none
 | some (.array _ el)=>match tw P el with
   | some n=>some fun i=>some (i*n,n)
   | none=>none
 | _=>none
def Ax (P:Program):List Field→Bool
 | []=>true
 | f::fs=>match tw P f.type with
   | some _=>Ax P fs
   | none=>false
def EF (P:Program)(t:TypeId)(ps:List (Nat×AV)):Option AV:=
 match ja P t with
 | some z=>match P.underlying t with
   | some (.struct fs)=>match Ax P fs.toList&&z.cells.all eI with
     | true=>match B8 (fun i=>match nth fs.toList i with
         | some f=>match tw P f.type with
           | some n=>some (f.offset,n)
           | none=>none
         | none=>none) z.cells ps with
       | some cs=>some (.agg cs)
       | none=>none
     | false=>none
   | some (.array _ el)=>match tw P el with
     | some n=>match z.cells.all eI with
       | true=>match B8 (fun i=>some (i*n,n)) z.cells ps with
         | some cs=>some (.agg cs)
         | none=>none
       | false=>none
     | none=>none
   | _=>none
 | none=>none
theorem Mx : ∀ {fs:List Field},Ax P fs=true→(fs.mapM fun f=>do pure (f.offset,←sizeOf f.type):Sem (List (Nat×Nat))).run P w=.ok (fs.map fun f=>(f.offset,(tw P f.type).getD 0)) w:=by
 intro fs
 induction fs with
 | nil=>intro _;simp
 | cons f fs a=>
   intro h
   simp only[Ax] at h
   split at h<;>try (simp at h;done)
   simp_all[run_sizeOf]
variable {r : AV}
theorem Hs {xs:Array (Nat×Value)}(h:EF P t ps=some r)(m:xi g ps xs.toList) :
   ∃ z,(Instr.build t xs).run P w=.ok z w∧VR g r z:=by
 unfold EF at h
 split at h<;>try (simp at h;done)
 rename_i z o
 obtain⟨s,c,d⟩:=jM (P:=P) (w:=w) (g:=g) o
 split at h<;>try (simp at h;done)
 · rename_i fs hu
   split at h<;>try (simp at h;done)
   rename_i hb
   simp only[aY] at hb
   split at h<;>simp only[ba,reduceCtorEq] at h
   rename_i cs hf
   subst h
   have b:(fun i=>match nth fs.toList i with
       | some f=>match tw P f.type with
         | some n=>some (f.offset,n)
         | none=>none
       | none=>none)=fun i=>((fs.map fun f=>(f.offset,(tw P f.type).getD 0))[i]? : Option (Nat×Nat)):=by
    funext i
    rw[j8]
    simp only[vB,Array.getElem?_map]
    cases k:fs[i]? with
    | none=>rfl
    | some f=>
      simp only[j9]
      have hm:f∈fs.toList:=uI (by simpa using k:fs.toList[i]? = some f)
      have:∃ n,tw P f.type=some n:=by
       have:=hb.1
       clear hf d c o hu k
       generalize fs.toList=l at this hm
       induction l with
       | nil=>simp at hm
       | cons a l q=>
         simp only[Ax] at this
         split at this<;>try (simp at this;done)
         rename_i n e
         rcases cF.1 hm with rfl | hm
         · exact⟨n,e⟩
         · exact q this hm
      obtain⟨n,e⟩:=this
      simp[e]
   rw[b] at hf
   obtain⟨c', p,j⟩:=Be m hf (kb d hb.2)
   refine⟨.agg c', ?_,.agg j.1 j.2⟩
   simp only[Instr.build,Sem.run_bind,c,Result.andThen_ok,ah hu]
   have hm:(fs.mapM fun f=>do pure (f.offset,←sizeOf f.type):Sem (Array (Nat×Nat))).run P w=.ok (fs.map fun f=>(f.offset,(tw P f.type).getD 0)) w:=by
    rw[Array.mapM_eq_mapM_toList]
    simp only[Sem.run_map,Mx hb.1,Result.andThen_ok]
    congr 1
    apply Array.ext';simp
   simp_all
 · rename_i len el hu
   split at h<;>try (simp at h;done)
   rename_i n e
   split at h<;>try (simp at h;done)
   rename_i hb
   split at h<;>simp only[ba,reduceCtorEq] at h
   rename_i cs hf
   subst h
   obtain⟨c', p,j⟩:=Be m hf (kb d hb)
   refine⟨.agg c', ?_,.agg j.1 j.2⟩
   simp only[Instr.build,Sem.run_bind,c,Result.andThen_ok,ah hu,run_sizeOf e]
   rw[p]
   simp
def Im (S:ag)(v:AV):Option (AV×ag):=
 match v.cells.all eI&&Nat.ble (S.nx+1) 8192&&Nat.ble S.lim S.nx with
 | true=>some (.ptr S.nx 0 0,S.add (.arr v.cells.length [v]))
 | false=>none
variable {S S' : ag} {x : Value}
theorem Di (hi:Inv S g w){v:AV}(h:Im S v=some (r,S'))(f:VR g v x) :
   ∃ a w' g', (newVar t x).run P w=.ok a w' ∧ VR g' r (.pointer (some a))∧Inv S' g' w' ∧ Ext S g w S' g' w' := by
 unfold Im at h
 split at h<;>simp only[ba,lR,reduceCtorEq] at h
 rename_i c
 obtain⟨rfl,rfl⟩:=h
 simp only[aY] at c
 have c2:=gb c.1.2
 have c3:=gb c.2
 have b:=kb f c.1.1
 obtain ⟨k,q2⟩:=hi.alloc (w' := w.alloc (.cells x.cells t)) (by omega) (o:=.arr v.cells.length [v]) (ob:=.cells x.cells t) (l:=⟨w.heap.size,0,v.cells.length,x.cells.size⟩) rfl
   ⟨x.cells,t,rfl,rfl,rfl,by simp[b.1],by simp,by
    intro i j e a y d m p
    cases i with
    | zero=>
      simp only[ur,ba] at d
      subst d
      exact b.2 j a y m (by simpa using p)
    | succ i=>simp at d⟩ rfl rfl ⟨rfl,bJ _⟩ rfl c3
 refine⟨⟨w.heap.size,0,none⟩,_,_,?_,?_,k,q2⟩
 · simp[newVar,newRow]
 · have:=VR.ptr (g:=g.add S.nx ⟨w.heap.size,0,v.cells.length,x.cells.size⟩) (id:=S.nx) (i:=0) (j:=0) (Gh.add_same _ _ _)
   simpa using this
def Tl : List AV→List (Nat×AV)→Option (List AV)
 | es,[]=>some es
 | es,(i,v)::r=>match nth es i with
   | some e=>match Nat.beq v.cells.length e.cells.length&&v.cells.all eI with
     | true=>Tl (es.set i v) r
     | false=>none
   | none=>none
def qH (g:Gh)(sz:Nat)(es:List AV)(c:Array Value):Prop:=
 es.length*sz≤c.size∧(∀ e,e∈es→e.cells.length=sz)∧∀(i j:Nat) (e a:AV) (y:Value),es[i]? = some e→e.cells[j]? = some a→c[i*sz+j]? = some y→VR g a y
theorem OW {sz:Nat}(H:xi g ps xs):∀ {es r:List AV} {c:Array Value},Tl es ps=some r→qH g sz es c →
   ∃ c', Instr.fill (fun i=>some (i*sz,sz)) c xs=some c' ∧ qH g sz r c' ∧ c'.size=c.size∧r.length=es.length:=by
 induction H with
 | nil=>intro es r c h B;simp only[Tl,ba] at h;subst h;exact⟨c,rfl,B,rfl,rfl⟩
 | cons I R J=>
   rename_i i v y ps xs
   intro es r c h B
   simp only[Tl] at h
   split at h<;>try (simp at h;done)
   rename_i e C
   rw[j8] at C
   split at h<;>try (simp at h;done)
   rename_i hb
   simp only[aY] at hb
   have K:=np hb.1
   obtain⟨k1,k2,k3⟩:=B
   have d:=kb I hb.2
   have f:v.cells.length=sz:=by rw[K];exact k2 e (uI C)
   have q:i<es.length:=(lr.1 C).1
   have F:i*sz+sz≤es.length*sz:=by
     have:(i+1)*sz≤es.length*sz:=xY _ q
     rw[mM] at this;exact this
   have k:y.cells.toList.length=sz:=by rw[←f,d.1];simp
   have s:qH g sz (es.set i v) (Eng.mS c.toList (i*sz) y.cells.toList).toArray:=by
     refine⟨by simp[gC];exact k1,?_,?_⟩
     · intro L D
       rcases List.mem_or_eq_of_mem_set D with hm | hm
       · exact k2 L hm
       · subst hm;exact f
     · intro o j u a z b A p
       rw[q9,iH _ _ _ (by rw[k];simp;omega),k] at p
       rw[List.getElem?_set] at b
       by_cases l:i=o
       · subst l
         rw[if_pos rfl,if_pos q] at b
         simp only[ba] at b
         subst b
         have M:j<sz:=by rw[←f];exact(lr.1 A).1
         rw[if_pos (by omega),show i*sz+j-i*sz=j from by omega] at p
         exact d.2 j a z A (by simpa using p)
       · rw[if_neg l] at b
         have M:j<sz:=by rw[←k2 u (uI b)];exact(lr.1 A).1
         have E:¬ (i*sz≤o*sz+j∧o*sz+j<i*sz+sz):=by
          rintro⟨c1,c2⟩
          rcases Nat.lt_or_gt_of_ne l with m | m
          · have:(i+1)*sz≤o*sz:=xY _ m
            rw[mM] at this;omega
          · have:(o+1)*sz≤i*sz:=xY _ m
            rw[mM] at this;omega
         rw[if_neg E] at p
         exact k3 o j u a z b A (by simpa using p)
   obtain⟨c', N,u,O,Q⟩:=J (c:=(Eng.mS c.toList (i*sz) y.cells.toList).toArray) h s
   refine⟨c', ?_,u,?_,?_⟩
   · simp only[Instr.fill]
     have G:=d.1
     rw[if_neg (by simp;omega)]
     rw[←N]
     congr 1
     have:=IE (i*sz) y.cells.toList 0 c (by simp;simp at k;omega)
     rw[xj] at this
     rw[←this,←Array.foldl_toList]
     simp
   · rw[O];simp[gC]
   · rw[Q];simp
theorem qH.alloc {S:ag}{g:Gh}{w:World}(hi:Inv S g w){sz:Nat}{es:List AV}{c:Array Value}(h:qH g sz es c)(t:TypeId)(b:Ok S.nx)(d:S.lim≤S.nx) :
  Inv (S.add (.arr sz es)) (g.add S.nx ⟨w.heap.size,0,sz,c.size⟩) (w.alloc (.cells c t))∧Ext S g w (S.add (.arr sz es)) (g.add S.nx ⟨w.heap.size,0,sz,c.size⟩) (w.alloc (.cells c t)):=
 hi.alloc (w' := w.alloc (.cells c t)) b (o:=.arr sz es) (ob:=.cells c t) (l:=⟨w.heap.size,0,sz,c.size⟩) rfl
  ⟨c,t,rfl,rfl,rfl,by simpa using h.1,h.2.1,fun i j e a y f k m=>h.2.2 i j e a y f k (by simpa using m)⟩ rfl rfl ⟨rfl,bJ _⟩ rfl d
variable {n : Nat}
theorem AO {z:AV}{b:Array Value}{m:Nat}(f:hM g z.cells b)(l:n≤m):qH g b.size (List.replicate n z) ((Array.range (m*b.size)).map fun i=>b[i%b.size]!):=by
 refine⟨by simp;exact xY _ l,?_,?_⟩
 · intro e o;rw[(List.mem_replicate.1 o).2,f.1]
 · intro i j e a y c k d
   rw[List.getElem?_replicate] at c
   split at c<;>simp only[ba,reduceCtorEq] at c
   rename_i hi
   subst c
   have p:j<b.size:=by rw[←f.1];exact(lr.1 k).1
   simp only[Array.getElem?_map] at d
   have h:i*b.size+j<m*b.size:=by
    have:(i+1)*b.size≤m*b.size:=xY _ (by omega)
    rw[mM] at this;omega
   rw[Array.getElem?_range,if_pos h] at d
   simp only[j9,ba] at d
   have q:(i*b.size+j)%b.size=j:=by
    rw[Nat.mul_comm,Nat.mul_add_mod];exact Nat.mod_eq_of_lt p
   rw[q] at d
   refine f.2 j a y k ?_
   simp_all
def gI (S:ag)(sz:Nat)(es:List AV):Option (AV×ag):=
 match Nat.ble (S.nx+1) 8192&&Nat.ble S.lim S.nx with
 | true=>some (.ai S.nx 0 es.length,S.add (.arr sz es))
 | false=>none
def oz (P:Program)(S:ag)(t:TypeId)(len:Nat)(ps:List (Nat×AV)):Option (AV×ag):=
 match P.underlying t with
 | some (.slice el)=>match tw P el with
   | some (n+1)=>match Nat.ble (len*(n+1)) (2 ^ 24) with
     | true=>match ja P el with
       | some z=>match Nat.beq z.cells.length (n+1)&&z.cells.all eI with
         | true=>match Tl (List.replicate len z) ps with
           | some es=>gI S (n+1) es
           | none=>none
         | false=>none
       | none=>none
     | false=>none
   | _=>none
 | _=>none
theorem zV (hi:Inv S g w){len:Nat}{xs:Array (Nat×Value)}(h:oz P S t len ps=some (r,S'))(v:xi g ps xs.toList) :
   ∃ z w' g', (Instr.buildSlice t len xs).run P w=.ok z w' ∧ VR g' r z∧Inv S' g' w' ∧ Ext S g w S' g' w' := by
 unfold oz at h
 split at h<;>try (simp at h;done)
 rename_i el hu
 split at h<;>try (simp at h;done)
 rename_i n p
 simp only[Nat.succ_eq_add_one] at p h
 split at h<;>try (simp at h;done)
 rename_i b
 have b:=gb b
 split at h<;>try (simp at h;done)
 rename_i z y
 split at h<;>try (simp at h;done)
 rename_i hb
 simp only[aY] at hb
 have j:=np hb.1
 split at h<;>try (simp at h;done)
 rename_i es A
 unfold gI at h
 split at h<;>simp only[ba,lR,reduceCtorEq] at h
 rename_i f
 obtain⟨rfl,rfl⟩:=h
 simp only[aY] at f
 have c2:=gb f.1
 have c3:=gb f.2
 obtain⟨q,k,l⟩:=jM (P:=P) (w:=w) (g:=g) y
 have c:=kb l hb.2
 have d:q.cells.size=n+1:=by rw[←c.1,j]
 have s:=AO (n:=len) (m:=len) c (bJ _)
 rw[d] at s
 obtain⟨c', u,B,C,D⟩:=OW v A s
 obtain⟨E,q2⟩:=B.alloc hi el (by omega) c3
 have o:c'.size=len*(n+1):=by rw[C];simp
 have e:es.length=len:=by rw[D];simp
 refine⟨.slice (some ⟨w.heap.size,0,none⟩) len len,_,_,?_,?_,E,q2⟩
 · simp only[Instr.buildSlice,Sem.run_bind,ah hu,Result.andThen_ok,run_sizeOf p]
   rw[if_neg (by omega)]
   by_cases a:len*(n+1)=0
   · rw[if_pos a]
     simp only[Sem.run_bind,Sem.run_pure,Result.andThen_ok]
     have:((Array.range (len*(n+1))).map fun i=>(#[]:Array Value)[i%(#[]:Array Value).size]!)=(Array.range (len*(n+1))).map fun i=>q.cells[i%(n+1)]! := by
      rw[a];apply Array.ext';simp
     rw[this,u]
     simp[newRow]
   · rw[if_neg a]
     simp only[Sem.run_bind,k,Result.andThen_ok,Sem.run_pure,d]
     rw[u]
     simp[newRow]
 · have:=VR.ai (g:=g.add S.nx ⟨w.heap.size,0,n+1,c'.size⟩) (id:=S.nx) (off:=0) (len:=es.length) (cap:=len) (Gh.add_same _ _ _) (by omega) (by simp;omega)
   rw[e] at this ⊢
   simpa using this
def nT (P:Program)(S:ag)(t:TypeId)(len cap:AV):Option (AV×ag):=
 match wo len,wo cap,P.underlying t with
 | some l,some c,some (.slice el)=>match P.info? el,ja P el with
   | some i,some z=>match Nat.ble l c&&Nat.ble (c*(i.bytes+1)) (2 ^ 40)&&Nat.beq z.cells.length i.size&&Nat.ble 1 i.size&&z.cells.all eI with
     | true=>gI S i.size (List.replicate l z)
     | false=>none
   | _,_=>none
 | _,_,_=>none
theorem wrap64_in {n:Int}(h : -9223372036854775808≤n∧n≤9223372036854775807):IntKind.i64.wrap n=n:=by rw[IntKind.wrap_i64];omega
theorem zK (h:n<2 ^ 62):IntKind.i64.wrap (n:Int)=n:=wrap64_in (by omega)
theorem Bz (hi:Inv S g w){len cap:AV}{y:Value}(h:nT P S t len cap=some (r,S'))(hx:VR g len x)(hy:VR g cap y) :
   ∃ z w' g', (Instr.makeSlice t x y).run P w=.ok z w' ∧ VR g' r z∧Inv S' g' w' ∧ Ext S g w S' g' w' := by
 unfold nT at h
 split at h<;>try (simp at h;done)
 rename_i l c el E f hu
 obtain⟨k1,rfl⟩:=ib E hx
 obtain⟨k2,rfl⟩:=ib f hy
 split at h<;>try (simp at h;done)
 rename_i i z a F
 split at h<;>try (simp at h;done)
 rename_i hb
 simp only[aY] at hb
 obtain⟨⟨⟨⟨j,o⟩,p⟩,B⟩,G⟩:=hb
 have j:=gb j
 have o:=gb o
 have p:=np p
 have B:=gb B
 unfold gI at h
 split at h<;>simp only[ba,lR,reduceCtorEq] at h
 rename_i q
 obtain⟨rfl,rfl⟩:=h
 simp only[aY] at q
 have c2:=gb q.1
 have c3:=gb q.2
 obtain⟨C,s,u⟩:=jM (P:=P) (w:=w) (g:=g) F
 have d:=kb u G
 have e:C.cells.size=i.size:=by rw[←d.1,p]
 have D:=AO (n:=l) (m:=c) d j
 rw[e] at D
 obtain⟨H,q2⟩:=D.alloc hi el (by omega) c3
 have J:c*i.bytes≤2 ^ 40:=lH (Nat.mul_le_mul_left c (xk _)) o
 have K:c≤2 ^ 40:=lH (Nat.le_mul_of_pos_right c (Nat.succ_pos _)) o
 have w1:IntKind.i64.wrap (Int.ofNat l)=l:=zK (by omega)
 have I:IntKind.i64.wrap (Int.ofNat c)=c:=zK (by omega)
 have v:tw P el=some i.size:=by simp[tw,a]
 refine⟨.slice (some ⟨w.heap.size,0,none⟩) l c,_,_,?_,?_,H,q2⟩
 · simp only[Instr.makeSlice,Sem.run_bind,ah hu,Result.andThen_ok,asInt,asIntOf,Sem.run_pure,cY a,w1,I]
   have A:¬ ((decide ((c:Int)<0)||decide ((i.bytes:Int)*(c:Int)>2 ^ 48))||decide ((l:Int)<0)||decide ((l:Int)>(c:Int)))=true:=by
     simp only[xl,decide_eq_true_eq,not_or]
     refine⟨⟨⟨by omega,?_⟩,by omega⟩,by omega⟩
     have:((i.bytes:Int)*(c:Int))=((c*i.bytes:Nat):Int):=by rw[Int.natCast_mul,Int.mul_comm]
     rw[this];omega
   rw[if_neg A]
   simp only[Sem.run_bind,run_askRoom,Result.andThen_ok,run_sizeOf v,sy]
   by_cases b:c*i.size=0
   · rw[if_pos b]
     simp only[Sem.run_bind,Sem.run_pure,Result.andThen_ok]
     have:((Array.range (c*i.size)).map fun k=>(#[]:Array Value)[k%(#[]:Array Value).size]!)=(Array.range (c*i.size)).map fun k=>C.cells[k%i.size]! := by
      rw[b];apply Array.ext';simp
     rw[this]
     simp[newRow]
   · rw[if_neg b]
     simp only[Sem.run_bind,s,Result.andThen_ok,Sem.run_pure,e]
     simp[newRow]
 · have:=VR.ai (g:=g.add S.nx ⟨w.heap.size,0,i.size,c*i.size⟩) (id:=S.nx) (off:=0) (len:=l) (cap:=c) (Gh.add_same _ _ _) j (by simp)
   simpa using this
end
noncomputable section
def sD (S:ag):AV→Option (List AV)
 | .lit es=>some es
 | .ai id off len=>match S.get id with
   | some (.arr _ es)=>match Nat.ble (off+len) es.length with
     | true=>some ((es.drop off).take len)
     | false=>none
   | _=>none
 | .an=>some []
 | .fw=>some []
 | _=>none
def iX (S:ag):AV→Option (List AV)
 | .clip v=>sD S v
 | v=>sD S v
def sized (n:Nat)(es:List AV):Bool:=es.all fun e=>Nat.beq e.cells.length n&&e.cells.all eI
variable {n : Nat} {es : List AV}
theorem kc (h:sized n es=true){e:AV}(a:e∈es):e.cells.length=n∧e.cells.all eI=true:=by
 have:=dh.1 h e a
 simp_all
variable {P : Program} {S : ag} {g : Gh} {w : World} {x : AV} {y : Value}
theorem FZ (hi:Inv S g w)(h:sD S x=some es)(F:VR g x y)(hs:sized n es=true) :
   ∃ a cap cs,y=.slice a es.length cap∧es.length≤cap∧(∀ w', w'.heap=w.heap→(Builtin.firstCells n es.length y).run P w' = .ok cs w')∧qH g n es cs∧cs.size=es.length*n:=by
 have f:∀(a:Option Addr) (cap:Nat) (w' : World),w'.heap=w.heap→(Builtin.firstCells n 0 (.slice a 0 cap)).run P w' = .ok #[] w' := by
   intro a cap w' _
   cases a with
   | none=>simp[Builtin.firstCells]
   | some a=>simp[Builtin.firstCells,loadCells,loadCellsFrom]
 have D:qH g n [] #[]:=⟨by simp,by simp,by simp⟩
 unfold sD at h
 split at h<;>try (simp at h;done)
 · simp only[ba] at h;subst h
   cases F with
   | jZ=>exact⟨_,_,#[],rfl,bU _,f _ _,D,by simp⟩
   | lit N E hb m hh=>
     rename_i es b o sz cap c
     by_cases G:es=[]
     · subst G;exact⟨_,cap,#[],rfl,bU _,f _ _,D,by simp⟩
     · have v:n=sz:=by
         obtain⟨e,q⟩:=List.exists_mem_of_ne_nil _ G
         rw[←E e q,(kc hs q).1]
       subst v
       obtain⟨t,fz,O⟩:=hi.ro _ _ N
       refine⟨_,cap,c.extract o (o+es.length*n),rfl,m,?_,⟨by simp;omega,E,?_⟩,by simp;omega⟩
       · intro w' A
         simp only[Builtin.firstCells]
         rw[run_loadCells (by rw[A];exact O) hb]
       · intro i j e a z u H p
         rw[Fv] at p
         split at p
         · exact hh i j e a z u H (by rw[←p];congr 1;omega)
         · simp at p
 · rename_i id off len
   split at h<;>try (simp at h;done)
   rename_i sz B Q
   split at h<;>simp only[ba,reduceCtorEq] at h
   rename_i C
   have C:=gb C
   subst h
   have k:((B.drop off).take len).length=len:=by simp;omega
   cases F with
   | hZ=>simp only[List.take_zero] at *;exact⟨_,_,#[],rfl,bJ _,f _ _,D,by simp⟩
   | ai R m hb=>
     rename_i cap l
     obtain⟨l', I,q2,q3⟩:=hi.ob _ _ Q
     rw[R] at I;simp only[ba] at I;subst I
     obtain⟨c,V,T,W,L,X,M,U⟩:=q3
     rw[k]
     by_cases G:len=0
     · subst G;simp only[List.take_zero] at *;exact⟨_,cap,#[],rfl,bU _,f _ _,D,by simp⟩
     · have v:n=sz:=by
         have J:(B.drop off).take len≠[]:=by intro e;rw[e] at k;simp at k;omega
         obtain⟨e,q⟩:=List.exists_mem_of_ne_nil _ J
         rw[←M e (FA (uq q)),(kc hs q).1]
       subst v
       have K:l.base+off*l.sz+len*n≤c.size:=by
         rw[L]
         have:(off+len)*n≤B.length*n:=xY _ C
         rw[fV] at this;omega
       refine⟨_,cap,c.extract (l.base+off*l.sz) (l.base+off*l.sz+len*n),rfl,m,?_,⟨by rw[k];simp;omega,?_,?_⟩,by simp;omega⟩
       · intro w' A
         simp only[Builtin.firstCells]
         rw[run_loadCells (by rw[A];exact T) K]
       · intro e q;exact M e (FA (uq q))
       · intro i j e a z u H p
         rw[sx] at u
         split at u
         · rw[su] at u
           rw[Fv] at p
           split at p
           · refine U (off+i) j e a z u H ?_
             rw[←p];congr 1;rw[L,fV];omega
           · simp at p
         · simp at u
 · simp only[ba] at h;subst h
   cases F with | an=>exact⟨_,_,#[],rfl,bJ _,f _ _,D,by simp⟩
 · simp only[ba] at h;subst h
   cases F with | fw=>exact⟨_,_,#[],rfl,bJ _,f _ _,D,by simp⟩
theorem rZ (hi:Inv S g w)(h:iX S x=some es)(b:VR g x y)(hs:sized n es=true) :
   ∃ a cap cs,y=.slice a es.length cap∧es.length≤cap∧(∀ w', w'.heap=w.heap→(Builtin.firstCells n es.length y).run P w' = .ok cs w')∧qH g n es cs∧cs.size=es.length*n:=by
 unfold iX at h
 split at h
 · cases b with | clip b=>?_
   obtain⟨a,cap,cs,e,e2,f,j,k⟩:=FZ (P:=P) hi h b hs
   simp only[Value.slice.injEq] at e
   obtain⟨rfl,rfl,rfl⟩:=e
   refine⟨_,_,cs,rfl,bJ _,fun w' l=>?_,j,k⟩
   have:=f w' l
   rename_i a0 c0
   cases a0<;>exact this
 · exact FZ hi h b hs
variable {c d : Array Value}
theorem qH.append {fs:List AV}(h:qH g n es c)(m:qH g n fs d)(o:c.size=es.length*n):qH g n (es++fs) (c++d):=by
 obtain⟨A,a2,a3⟩:=h
 obtain⟨B,p,q⟩:=m
 refine⟨?_,?_,?_⟩
 · simp only[nv,Array.size_append,fV];omega
 · intro e u;rcases dG.1 u with k | k
   · exact a2 e k
   · exact p e k
 · intro i j e a y b l f
   by_cases hi:i<es.length
   · rw[B5 hi] at b
     have C:j<n:=by rw[←a2 e (uI b)];exact(lr.1 l).1
     have:i*n+n≤es.length*n:=by
      have:(i+1)*n≤es.length*n:=xY _ hi
      rw[mM] at this;exact this
     rw[Jv (by omega)] at f
     exact a3 i j e a y b l f
   · rw[B6 (by omega)] at b
     have v:es.length*n≤i*n:=xY _ (by omega)
     rw[Array.getElem?_append_right (by omega)] at f
     refine q _ j e a y b l ?_
     rw[←f];congr 1;rw[Nat.sub_mul,o];omega
theorem qH.more (h:qH g n es c)(d:Array Value)(a:c.size=es.length*n):qH g n es (c++d):=by
 have:=h.append (fs:=[]) (d:=d) ⟨by simp,by simp,by simp⟩ a
 simpa using this
theorem qH.mono {g g' : Gh}(b:Gh.le g g'){n:Nat}{es:List AV}{c:Array Value}(h:qH g n es c):qH g' n es c:=⟨h.1,h.2.1,fun i j e a y f k l=>(h.2.2 i j e a y f k l).mono b⟩
theorem RJ (a B:Nat)(e:a+(a+768)/4≤B):∀(r c:Nat),c≤B→Builtin.growBy a r c≤B:=by
 intro r
 induction r with
 | zero=>intro c h;exact h
 | succ r b=>
   intro c h
   simp only[Builtin.growBy]
   split
   · exact h
   · exact b _ (by omega)
theorem nextslicecap_le (a wY:Nat)(h:wY<a):Builtin.nextslicecap a wY≤2*a+768:=by
 unfold Builtin.nextslicecap
 split
 · omega
 · split
   · omega
   · exact RJ a _ (by omega) 4 wY (by omega)
variable {w' : World}
theorem Inv.world (h:Inv S g w)(hh:w'.heap=w.heap):Inv S g w' :=
 ⟨fun b c e=>by rw[hh];exact h.ro b c e,fun id o e=>by obtain⟨l,a,b,c⟩:=h.ob id o e;simp_all,h.inj,h.fresh⟩
theorem Ext.world (hh:w'.heap=w.heap)(f:w'.os=w.os)(j:Lg w' w)(hu:w'.output=w.output):Ext S g w S g w' :=
 ⟨by simp_all,f,j,hu,fun b _ _=>by rw[hh],fun id o l h h1 h2 _=>⟨id,o,l,h,h1,h2,rfl⟩,Gh.le_refl _,bJ _,rfl,fun _ _=>rfl,fun _ _=>rfl,fun _ _ e _=>.inl e,fun _ _ e=>e,fun a _=>by unfold World.frozen?;rw[hh]⟩
variable {sz : Nat}
theorem F3 (hi:Inv S g w){id off:Nat}{xs:List AV}{l:Loc}{cc:Array Value}(I:S.get id=some (.arr sz es))(N:S.lim≤id)(J:g.ph id=some l)(hb:sized sz xs=true)(K:qH g sz xs cc)(E:cc.size=xs.length*sz)(O:off+xs.length≤es.length) :
   ∃ w', (storeCells ⟨l.cU,l.base+off*sz,none⟩ cc.toList).run P w=.ok () w' ∧ Inv (S.set id (.arr sz (mS es off xs))) g w' ∧ Ext S g w (S.set id (.arr sz (mS es off xs))) g w' := by
 obtain⟨l', D,q2,q3⟩:=hi.ob _ _ I
 rw[J] at D;simp only[ba] at D;subst D
 obtain⟨c,L,Q,R,T,U,M,V⟩:=q3
 have u:cc.toList.length=xs.length*sz:=by simp_all
 have m:l.base+off*sz+cc.toList.length≤c.size:=by
   rw[u]
   have:(off+xs.length)*sz≤es.length*sz:=xY _ O
   rw[fV] at this;omega
 have B:∀ y,y∈cc.toList→y.oneCell' = true:=by
   intro y hy
   obtain⟨k,p⟩:=gM hy
   have v:cc[k]? = some y:=by simpa using p
   have h:k<xs.length*sz:=by rw[←E];exact(y8.1 v).1
   have F:0<sz:=by
     rcases Nat.eq_zero_or_pos sz with e | e
     · rw[e] at h;simp at h
     · exact e
   have h1:k/sz<xs.length:=Nat.div_lt_of_lt_mul (by rw[Nat.mul_comm];exact h)
   have h2:k%sz<sz:=Nat.mod_lt _ F
   obtain⟨s1,s2⟩:=kc hb (cM h1)
   have h3:k%sz<xs[k/sz].cells.length:=by rw[s1];exact h2
   refine rH (dh.1 s2 _ (cM h3)) (K.2.2 _ _ _ _ y (qm h1) (qm h3) ?_)
   rw[←v];congr 1;rw[Nat.mul_comm];exact Nat.div_add_mod k sz
 obtain⟨w', W,X,Y,Z,r5,r6,r7⟩:=oD (P:=P) (b:=l.cU) (o:=l.base+off*sz) (t:=L) cc.toList w c 0 Q (by omega) B
 refine⟨w', by simpa using W,?_⟩
 refine hi.jz I N J Z X Y r5 r6 r7 ⟨_,L,rfl,by simp[gC,R],T,by simp[gC];exact U,?_,?_⟩
 · intro e he
   obtain⟨k,p⟩:=gM he
   rw[iH _ _ _ (by omega)] at p
   split at p
   · exact(kc hb (uI p)).1
   · exact M e (uI p)
 · intro i j e a y f C q
   rw[iH _ _ _ (by omega)] at f
   rw[q9,iH _ _ _ (by simp at m ⊢;omega),u] at q
   simp only[xj] at q
   by_cases A:off≤i∧i<off+xs.length
   · rw[if_pos A] at f
     have hj:j<sz:=by rw[←(kc hb (uI f)).1];exact(lr.1 C).1
     have hm:(i-off)*sz+sz≤xs.length*sz:=by
      have:(i-off+1)*sz≤xs.length*sz:=xY _ (by omega)
      rw[mM] at this;exact this
     have hio:i*sz=off*sz+(i-off)*sz:=by rw[←fV];congr 1;omega
     rw[if_pos (by omega)] at q
     refine K.2.2 _ j e a y f C ?_
     rw[←vB,←q];congr 1;omega
   · rw[if_neg A] at f
     have hj:j<sz:=by rw[←M e (uI f)];exact(lr.1 C).1
     have G:¬ (l.base+off*sz≤l.base+i*sz+j∧l.base+i*sz+j<l.base+off*sz+xs.length*sz):=by
      rintro⟨c1,c2⟩
      rcases jT i off with H | hge
      · have:(i+1)*sz≤off*sz:=xY _ H
        rw[mM] at this;omega
      · have:(off+xs.length)*sz≤i*sz:=xY _ (by omega)
        rw[fV] at this;omega
     rw[if_neg G] at q
     exact V i j e a y f C (by simpa using q)
def B9 (S:ag)(id off len sz:Nat)(xs:List AV):Option ag:=
 match S.get id with
 | some (.arr a es)=>match Nat.beq a sz&&Nat.ble S.lim id&&Nat.ble (off+len+xs.length) es.length with
   | true=>some (S.set id (.arr a (mS es (off+len) xs)))
   | false=>none
 | _=>none
def qL (P:Program)(S:ag)(ts:List TypeId)(s x:AV):Option (AV×ag):=
 match ts with
 | st::xt::_=>match P.underlying st,P.underlying xt with
   | some (.slice el),some (.slice _)=>match P.info? el,ja P el,iX S x with
     | some i,some z,some xs=>match sized i.size xs&&Nat.ble 1 i.size&&Nat.ble i.bytes 4096&&Nat.beq z.cells.length i.size&&z.cells.all eI with
       | true=>match xs with
         | []=>match iX S s with
           | some es=>match sized i.size es with
             | true=>some (s,S)
             | false=>none
           | none=>none
         | _::_=>match s with
           | .an=>match Nat.ble xs.length 1048576 with
             | true=>gI S i.size xs
             | false=>none
           | .fw=>match Nat.ble xs.length 1048576 with
             | true=>gI S i.size xs
             | false=>none
           | .ai id off len=>match B9 S id off len i.size xs with
             | some S' => some (.ai id off (len+xs.length),S')
             | none=>match S.get id,iX S s with
               | some (.arr sz _),some es=>match Nat.ble (es.length+xs.length) 1048576&&sized i.size es&&Nat.ble S.lim id&&Nat.beq sz i.size with
                 | true=>gI (S.del id) i.size (es++xs)
                 | false=>none
               | _,_=>none
           | .clip _=>match iX S s with
             | some es=>match Nat.ble (es.length+xs.length) 1048576&&sized i.size es with
               | true=>gI S i.size (es++xs)
               | false=>none
             | none=>none
           | _=>none
       | false=>none
     | _,_,_=>none
   | _,_=>none
 | _=>none
variable {st xt el e2 : TypeId} {i : TypeInfo} {z : Value} {ts : List TypeId} {sLen sCap : Nat} {new : Array Value} {t : TypeId}
theorem run_append_grow {base:Option Addr}{x:Value}{wY:Array Value}(hs:P.underlying st=some (.slice el))(h:P.underlying xt=some (.slice e2))(hi:P.info? el=some i)(l:i.zero=some z)(hb:i.bytes≤4096)(k:sLen+n≤2097152)(b:sCap<sLen+n)(e:(Builtin.lenOf x).run P w=.ok n w)(m:∀ w', w'.heap=w.heap→(Builtin.firstCells i.size sLen (.slice base sLen sCap)).run P w' = .ok wY w')(o:∀ w', w'.heap=w.heap→(Builtin.firstCells i.size n x).run P w' = .ok new w') :
  ∃ w' cap,(Builtin.append_ (st::xt::ts).toArray t #[.slice base sLen sCap,x]).run P w=.ok (.slice (some ⟨w.heap.size,0,none⟩) (sLen+n) cap) w' ∧ sLen+n≤cap ∧
   w'.heap=w.heap.push (.cells (wY++new++Builtin.zeroCells z.cells (cap-(sLen+n))) el)∧w'.os=w.os∧Lg w' w∧w'.output=w.output:=by
 have j:tw P el=some i.size:=by simp[tw,hi]
 have f:¬ (((sLen+n:Nat):Int)>IntKind.i64.max∧(False∨i.bytes=0)):=by
  have:IntKind.i64.max=9223372036854775807:=by decide
  omega
 have a:¬ (Builtin.nextslicecap (sLen+n) sCap*i.bytes>2 ^ 48):=by
  have h1:=nextslicecap_le (sLen+n) sCap b
  have h2:Builtin.nextslicecap (sLen+n) sCap*i.bytes≤(2*2097152+768)*4096:=Nat.mul_le_mul (by omega) hb
  omega
 refine ⟨(w.drew).alloc (.cells (wY++new++Builtin.zeroCells z.cells (Question.cut (.appendCap (sLen+n) sCap el) (w.tape w.drawn (.appendCap (sLen+n) sCap el))-(sLen+n))) el),
  Question.cut (.appendCap (sLen+n) sCap el) (w.tape w.drawn (.appendCap (sLen+n) sCap el)),?_,Nat.le_add_right _ _,rfl,rfl,⟨rfl,xk _⟩,rfl⟩
 have p:=m w.drew rfl
 have q:=o w.drew rfl
 have hzero:(zeroValue el).run P w.drew=.ok z w.drew:=by simp[zeroValue,cY hi,l]
 simp only[Builtin.append_,Sem.run_bind,q9,ur,q8,ah hs,ah h,Result.andThen_ok,run_sizeOf j,Sem.run_pure,
  dL,if_false,e]
 rw[if_neg (by omega)]
 simp only[Sem.run_bind,cY hi,Result.andThen_ok]
 rw[if_neg f]
 simp only[Sem.run_bind,cY hi,Result.andThen_ok]
 rw[if_neg a]
 simp_all[Question.forced,dL,if_false,Result.andThen_ok,cY,run_askRoom,World.drew_eq,Bool.not_false,if_true,newRow,run_newObj,Sem.run_pure]
theorem run_append_fits {a:Addr}{x:Value}(hs:P.underlying st=some (.slice el))(e:P.underlying xt=some (.slice e2))(hi:P.info? el=some i)(h:sLen+n≤sCap)(b:(Builtin.lenOf x).run P w=.ok n w)(k:(Builtin.firstCells i.size n x).run P w=.ok new w)(j:(storeCells (a.add (sLen*i.size)) new.toList).run P w=.ok () w') :
  (Builtin.append_ (st::xt::ts).toArray t #[.slice (some a) sLen sCap,x]).run P w=.ok (.slice (some a) (sLen+n) sCap) w' := by
 have f:tw P el=some i.size:=by simp[tw,hi]
 simp only[Builtin.append_,Sem.run_bind,q9,ur,q8,ah hs,ah e,Result.andThen_ok,run_sizeOf f,Sem.run_pure,
  dL,if_false,b]
 simp_all
theorem DY {b:Option Addr}{x:Value}(hs:P.underlying st=some (.slice el))(f:P.underlying xt=some (.slice e2))(hi:P.info? el=some i)(a:sLen≤sCap)(e:(Builtin.lenOf x).run P w=.ok 0 w)(j:(Builtin.firstCells i.size 0 x).run P w=.ok #[] w) :
  (Builtin.append_ (st::xt::ts).toArray t #[.slice b sLen sCap,x]).run P w=.ok (.slice b sLen sCap) w:=by
 have h:tw P el=some i.size:=by simp[tw,hi]
 simp only[Builtin.append_,Sem.run_bind,q9,ur,q8,ah hs,ah f,Result.andThen_ok,run_sizeOf h,Sem.run_pure,
  dL,if_false,e,xj]
 rw[if_pos a]
 cases b<;>simp_all[none,Sem.run_bind,Bool.not_false,if_true,Result.andThen_ok,Sem.run_pure,some,storeCells]
variable {S' : ag} {r : AV}
theorem Dj {w1:World}(hi:Inv S g w){cap:Nat}{m:Nat}(h:gI S sz es=some (r,S'))(p:qH g sz es c)(b:c.size=es.length*sz)(q:d.size=(cap-es.length)*sz)(f:es.length≤cap)(hh:w1.heap=w.heap.push (.cells (c++d) el))(u:w1.os=w.os)(v:Lg w1 w)(hu:w1.output=w.output)(A:m=w.heap.size) :
  ∃ g', VR g' r (.slice (some ⟨m,0,none⟩) es.length cap)∧Inv S' g' w1∧Ext S g w S' g' w1:=by
 subst A
 unfold gI at h
 split at h<;>simp only[ba,lR,reduceCtorEq] at h
 rename_i hb
 obtain⟨rfl,rfl⟩:=h
 simp only[aY] at hb
 have c2:=gb hb.1
 have c3:=gb hb.2
 have k:=p.more d b
 obtain ⟨B,q2⟩:=hi.alloc (w' := w1) (by omega) (o:=.arr sz es) (ob:=.cells (c++d) el) (l:=⟨w.heap.size,0,sz,(c++d).size⟩) rfl
  ⟨c++d,el,rfl,rfl,rfl,by simpa using k.1,k.2.1,fun i j e a y C D E=>k.2.2 i j e a y C D (by simpa using E)⟩ hh u v hu c3
 refine⟨_,?_,B,q2⟩
 have:=VR.ai (g:=g.add S.nx ⟨w.heap.size,0,sz,(c++d).size⟩) (id:=S.nx) (off:=0) (len:=es.length) (cap:=cap) (Gh.add_same _ _ _) f
  (by simp[b,q];rw[←fV];congr 1;omega)
 simpa using this
def JO (P:Program)(S:ag)(ts:List TypeId)(s x:AV):Option (AV×ag):=
 match ts with
 | st::xt::_=>match P.underlying st,P.underlying xt,s,x with
   | some (.slice el),some (.int _),.an,.sc (.int .i64 (.ofNat n))=>match P.info? el,ja P el with
     | some i,some z=>match Nat.ble 1 n&&Nat.ble n 1048576&&Nat.ble 1 i.size&&Nat.ble i.bytes 4096&&Nat.beq z.cells.length i.size&&z.cells.all eI with
       | true=>gI S i.size (List.replicate n z)
       | false=>none
     | _,_=>none
   | _,_,_,_=>none
 | _=>none
theorem Cs {o:IntKind}{k:IntKind}(hs:P.underlying st=some (.slice el))(f:P.underlying xt=some (.int o))(hi:P.info? el=some i)(p:i.zero=some z)(hb:i.bytes≤4096)(h1:1≤n)(h2:n≤1048576)(h3:1≤i.size) :
  ∃ w' cap,(Builtin.append_ (st::xt::ts).toArray t #[.slice none 0 0,.int k n]).run P w=.ok (.slice (some ⟨w.heap.size,0,none⟩) n cap) w' ∧ n≤cap ∧
   w'.heap=w.heap.push (.cells (Builtin.zeroCells z.cells n++Builtin.zeroCells z.cells (cap-n)) el)∧w'.os=w.os∧Lg w' w∧w'.output=w.output:=by
 have j:tw P el=some i.size:=by simp[tw,hi]
 have q:IntKind.i64.wrap (n:Int)=n:=zK (by omega)
 have a:n*i.bytes≤1048576*4096:=Nat.mul_le_mul h2 hb
 have b:¬ ((n:Int)*(i.bytes:Int)>2 ^ 48):=by
  have h:=Int.ofNat_le.2 a
  rw[Int.natCast_mul] at h
  omega
 have e:¬ (((0+n:Nat):Int)>IntKind.i64.max∧(True∨i.bytes=0)):=by
  have:IntKind.i64.max=9223372036854775807:=by decide
  omega
 have m:¬ (Builtin.nextslicecap (0+n) 0*i.bytes>2 ^ 48):=by
  have h1:=nextslicecap_le (0+n) 0 (by omega)
  have h2:Builtin.nextslicecap (0+n) 0*i.bytes≤(2*1048576+768)*4096:=Nat.mul_le_mul (by omega) hb
  omega
 have u:¬ (n*i.size=0):=by
  have:1*1≤n*i.size:=Nat.mul_le_mul h1 h3
  omega
 refine ⟨(w.drew).alloc (.cells (Builtin.zeroCells z.cells n++Builtin.zeroCells z.cells (Question.cut (.appendCap (0+n) 0 el) (w.tape w.drawn (.appendCap (0+n) 0 el))-n)) el),
  Question.cut (.appendCap (0+n) 0 el) (w.tape w.drawn (.appendCap (0+n) 0 el)),?_,lH (show n≤0+n by omega) (Nat.le_add_right _ _),rfl,rfl,⟨rfl,xk _⟩,rfl⟩
 have hzero:(zeroValue el).run P w.drew=.ok z w.drew:=by simp[zeroValue,cY hi,p]
 have l:(asInt (.int k (n:Int))).run P w=.ok (n:Int) w:=rfl
 simp only[Builtin.append_,Sem.run_bind,q9,ur,q8,ah hs,ah f,Result.andThen_ok,run_sizeOf j,Sem.run_pure,
  if_true,l,q]
 rw[if_neg (by omega)]
 simp only[Sem.run_bind,cY hi,Result.andThen_ok]
 rw[if_neg b]
 simp only[Sem.run_bind,Sem.run_pure,Result.andThen_ok,sy]
 rw[if_neg (by omega)]
 simp only[Sem.run_bind,cY hi,Result.andThen_ok]
 rw[if_neg e]
 simp only[Sem.run_bind,cY hi,Result.andThen_ok]
 simp_all[if_neg,Sem.run_bind,run_choose,Question.forced,dL,if_false,Result.andThen_ok,cY,run_askRoom,World.drew_eq,Builtin.firstCells,Sem.run_pure,Bool.not_true,newRow]
variable {s : AV} {sv xv : Value}
theorem Ht (hi:Inv S g w)(h:JO P S ts s x=some (r,S'))(hs:VR g s sv)(hx:VR g x xv) :
  ∃ z w' g', (Builtin.append_ ts.toArray t #[sv,xv]).run P w=.ok z w' ∧ VR g' r z∧Inv S' g' w' ∧ Ext S g w S' g' w' := by
 unfold JO at h
 split at h<;>try (simp at h;done)
 rename_i st xt ts
 split at h<;>try (simp at h;done)
 rename_i el O n A B
 split at h<;>try (simp at h;done)
 rename_i i z a j
 split at h<;>try (simp at h;done)
 rename_i hb
 simp only[aY] at hb
 obtain⟨⟨⟨⟨⟨o,p⟩,q⟩,u⟩,v⟩,F⟩:=hb
 have o:=gb o
 have p:=gb p
 have q:=gb q
 have u:=gb u
 have v:=np v
 obtain ⟨b,C,D⟩:∃ b,i.zero=some b∧VR g z b:=by
  unfold ja at j
  rw[a] at j
  simp only at j
  split at j<;>simp only[ba,reduceCtorEq] at j
  rename_i b e;subst j;exact⟨b,e,u4 g b⟩
 have l:=kb D F
 have f:b.cells.size=i.size:=by rw[←l.1,v]
 cases hs with | an=>?_
 cases hx with | sc _=>?_
 obtain⟨w', cap,G,H,I,J,K,L⟩:=Cs (P:=P) (w:=w) (ts:=ts) (k:=.i64) (t:=t) A B a C u o p q
 have E:=AO (n:=n) (m:=n) l (bJ _)
 rw[f] at E
 obtain ⟨g', M,N,v3⟩:=Dj (w1:=w') (el:=el) (cap:=cap) (c:=Builtin.zeroCells b.cells n) (d:=Builtin.zeroCells b.cells (cap-n)) hi h (by simpa [Builtin.zeroCells,f] using E) (by simp[Builtin.zeroCells,f]) (by simp[Builtin.zeroCells,f])
  (by simpa using H) I J K L rfl
 exact⟨_,w', g', G,by simpa using M,N,v3⟩
theorem Ext.del {S:ag}{g:Gh}{w:World}{id:Nat}(h:Ok id)(a:S.lim≤id):Ext S g w (S.del id) g w:=
 Ext.forget (ag.JN h) fun k b=>ag.dM h (by omega)
theorem Gv (hi:Inv S g w)(h:qL P S ts s x=some (r,S'))(hs:VR g s sv)(hx:VR g x xv) :
   ∃ z w' g', (Builtin.append_ ts.toArray t #[sv,xv]).run P w=.ok z w' ∧ VR g' r z∧Inv S' g' w' ∧ Ext S g w S' g' w' := by
 unfold qL at h
 split at h<;>try (simp at h;done)
 rename_i st xt ts
 split at h<;>try (simp at h;done)
 rename_i el e2 T U
 split at h<;>try (simp at h;done)
 rename_i i z xs p Z hxs
 split at h<;>try (simp at h;done)
 rename_i hb
 simp only[aY] at hb
 obtain⟨⟨⟨⟨b1,b2⟩,b3⟩,b4⟩,b5⟩:=hb
 have b2:=gb b2
 have b3:=gb b3
 have b4:=np b4
 have hsz:tw P el=some i.size:=by simp[tw,p]
 obtain ⟨M,hzi,hzv⟩:∃ M,i.zero=some M∧VR g z M:=by
   unfold ja at Z
   rw[p] at Z
   simp only at Z
   split at Z<;>simp only[ba,reduceCtorEq] at Z
   rename_i M e;subst Z;exact⟨M,e,u4 g M⟩
 have hzs:M.cells.size=i.size:=by rw[←(kb hzv b5).1,b4]
 have hzc:∀ k,(Builtin.zeroCells M.cells k).size=k*i.size:=by intro k;simp[Builtin.zeroCells,hzs]
 obtain⟨xa,xcap,D,hxe,hxcap,V,W,B⟩:=rZ (P:=P) hi hxs hx b1
 have X:∀ w', (Builtin.lenOf xv).run P w' = .ok xs.length w' := by intro w';rw[hxe];rfl
 split at h
 ·
   split at h<;>try (simp at h;done)
   rename_i es C
   split at h<;>simp only[ba,lR,reduceCtorEq] at h
   rename_i hsd
   obtain⟨rfl,rfl⟩:=h
   obtain⟨sa,f,sc,A,hsc,_,_,_⟩:=rZ (P:=P) hi C hs hsd
   refine⟨sv,w,g,?_,hs,hi,Ext.refl _ _ _⟩
   rw[A]
   refine DY T U p hsc (X w) ?_
   have h0:=V w rfl
   simp only[Oh] at h0
   rw[h0]
   have:D.size=0:=by rw[B];simp
   rw[Array.eq_empty_of_size_eq_zero this]
 · rename_i q u
   have grow:∀(S0:ag) (es:List AV) (sb:Option Addr) (f:Nat) (sc:Array Value),Inv S0 g w→gI S0 i.size (es++q::u)=some (r,S')→(es++q::u).length≤1048576→f<es.length+(q::u).length →
       (∀ w', w'.heap=w.heap→(Builtin.firstCells i.size es.length (.slice sb es.length f)).run P w' = .ok sc w')→qH g i.size es sc→sc.size=es.length*i.size →
       ∃ z w' g', (Builtin.append_ (st::xt::ts).toArray t #[.slice sb es.length f,xv]).run P w=.ok z w' ∧ VR g' r z∧Inv S' g' w' ∧ Ext S0 g w S' g' w' := by
     intro S0 es sb f sc hi0 hnew m I hrun hE E
     obtain⟨w', cap,N,O,Q,r4,r5,r6⟩:=run_append_grow (P:=P) (ts:=ts) (t:=t) T U p hzi b3 (by simp at m ⊢;omega) I (X w) hrun V
     obtain ⟨g', v1,v2,v3⟩:=Dj (w1:=w') (el:=el) (cap:=cap) hi0 hnew (hE.append W E) (by simp[E,B,fV]) (d:=Builtin.zeroCells M.cells (cap-(es.length+(q::u).length)))
       (by rw[hzc];simp) (by simp at O ⊢;omega) Q r4 r5 r6 rfl
     exact⟨_,w', g', N,by simpa using v1,v2,v3⟩
   split at h<;>try (simp at h;done)
   · split at h<;>try (simp at h;done)
     rename_i m
     have m:=gb m
     cases hs with | an=>?_
     exact grow S [] none 0 #[] hi (by simpa using h) (by simpa using m) (by simp) (by intro w' _;simp[Builtin.firstCells]) ⟨by simp,by simp,by simp⟩ (by simp)
   · split at h<;>try (simp at h;done)
     rename_i m
     have m:=gb m
     cases hs with | fw=>?_
     rename_i a
     refine grow S [] a 0 #[] hi (by simpa using h) (by simpa using m) (by simp) ?_ ⟨by simp,by simp,by simp⟩ (by simp)
     intro w' _;cases a<;>simp[Builtin.firstCells,loadCells,loadCellsFrom]
   · rename_i id off len
     split at h
     · rename_i S2 F
       simp only[ba,lR] at h
       obtain⟨rfl,rfl⟩:=h
       unfold B9 at F
       split at F<;>try (simp at F;done)
       rename_i sz es hg
       split at F<;>simp only[ba,reduceCtorEq] at F
       rename_i hc
       simp only[aY] at hc
       have d1:=np hc.1.1
       have d2:=gb hc.1.2
       have d3:=gb hc.2
       subst F
       subst d1
       obtain⟨l,q1,q2,q3⟩:=hi.ob _ _ hg
       obtain⟨w', N,O,Q⟩:=F3 (P:=P) (off:=off+len) hi hg d2 q1 b1 W B d3
       obtain⟨c,t', p1,p2,K,p4,p5,p6⟩:=q3
       have hmul:(off+len+(q::u).length)*i.size≤es.length*i.size:=xY _ d3
       cases hs with
       | hZ L Z=>
         exfalso
         rw[q1] at L;simp only[ba] at L;subst L
         rw[K] at Z
         rw[fV,fV] at hmul
         have:1*1≤(q::u).length*i.size:=Nat.mul_le_mul (by simp) b2
         omega
       | ai L I H=>
         rename_i cap lq
         rw[q1] at L;simp only[ba] at L;subst L
         rw[K] at H ⊢
         have m:(off+len+(q::u).length)*i.size≤(off+cap)*i.size:=by omega
         have hle2:=Nat.le_of_mul_le_mul_right m (by omega)
         have ha:(⟨l.cU,l.base+off*i.size,none⟩:Addr).add (len*i.size)=⟨l.cU,l.base+(off+len)*i.size,none⟩:=by
          rw[Addr.om,fV,Nat.add_assoc]
         refine⟨_,w', g,run_append_fits T U p (by omega) (X w) (V w rfl) (by rw[ha];exact N),?_,O,Q⟩
         have:=VR.ai (g:=g) (id:=id) (off:=off) (len:=len+(q::u).length) (cap:=cap) q1 (by omega) (by rw[K];exact H)
         rw[K] at this;exact this
     split at h<;>try (simp at h;done)
     rename_i sz es' es hg C
     split at h<;>try (simp at h;done)
     rename_i hb
     simp only[aY] at hb
     have c1:=gb hb.1.1.1
     have c3:=gb hb.1.2
     have c4:=np hb.2
     obtain⟨sa,f,sc,A,hsc,hsr,hsE,E⟩:=rZ (P:=P) hi C hs hb.1.1.2
     have bE:=ag.gv hg
     by_cases hfit:es.length+(q::u).length≤f
     ·
       cases hs with
       | hZ=>
         simp only[Value.slice.injEq] at A
         exfalso;simp at hfit;omega
       | ai L I H=>
         rename_i cap l
         simp only[Value.slice.injEq] at A
         obtain⟨e1,e2,e3⟩:=A
         subst e3
         obtain⟨l', q1,q2,q3⟩:=hi.ob _ _ hg
         rw[L] at q1;simp only[ba] at q1;subst q1
         obtain⟨c,t', p1,p2,K,p4,p5,p6⟩:=q3
         have hes' : es=(es'.drop off).take len∧off+len≤es'.length:=by
          simp only[iX,sD,hg] at C
          split at C<;>simp only[ba,reduceCtorEq] at C
          rename_i m;exact⟨C.symm,gb m⟩
         obtain⟨hes1,hes2⟩:=hes'
         have hxc1:∀ k,k<D.size→∃ e a,(q::u)[k/i.size]? = some e∧e.cells[k%i.size]? = some a∧eI a=true:=by
          intro k hk
          rw[B] at hk
          have h1:k/i.size<(q::u).length:=Nat.div_lt_of_lt_mul (by rw[Nat.mul_comm];exact hk)
          have h2:k%i.size<i.size:=Nat.mod_lt _ (by omega)
          obtain⟨s1,s2⟩:=kc b1 (cM h1)
          have h3:k%i.size<(q::u)[k/i.size].cells.length:=by rw[s1];exact h2
          exact⟨_,_,qm h1,qm h3,dh.1 s2 _ (cM h3)⟩
         have hone:∀ y,y∈D.toList→y.oneCell' = true:=by
          intro y hy
          obtain⟨k,hk⟩:=gM hy
          have hk' : D[k]? = some y:=by simpa using hk
          obtain⟨e,a,R,f2,f3⟩:=hxc1 k (y8.1 hk').1
          refine rH f3 (W.2.2 _ _ e a y R f2 ?_)
          rw[←hk'];congr 1;rw[Nat.mul_comm];exact Nat.div_add_mod k i.size
         have hroom:l.base+off*l.sz+len*i.size+D.toList.length≤c.size:=by
          rw[p2,show D.toList.length=D.size from xh,B]
          have:(off+(len+(q::u).length))*l.sz≤(off+cap)*l.sz:=xY _ (by omega)
          rw[fV,fV,K,c4] at this
          rw[K,c4] at H ⊢
          omega
         obtain⟨w', N,O,Q,r4,r5,r6,r7⟩:=oD (P:=P) (b:=l.cU) (o:=l.base+off*l.sz+len*i.size) (t:=t') D.toList w c 0 p1 (by omega) hone
         unfold gI at h
         split at h<;>simp only[ba,lR,reduceCtorEq] at h
         rename_i hn2
         obtain⟨rfl,rfl⟩:=h
         simp only[aY] at hn2
         have d2:S.nx+1≤8192:=gb hn2.1
         have hxl2:D.toList.length=(q::u).length*i.size:=by rw[show D.toList.length=D.size from xh];exact B
         have J:(es++q::u).length=len+(q::u).length:=by rw[nv,e2]
         have hsz' : (mS c.toList (l.base+off*l.sz+len*i.size+0) D.toList).toArray.size=l.bz:=by simp[gC,p2]
         obtain ⟨m1,m2⟩:=hi.move (w' := w') (by omega) (o' := .arr i.size (es++q::u)) (l' := ⟨l.cU,l.base+off*l.sz,i.size,l.bz⟩) hg c3 L rfl r4 O Q r5 r6 r7 (by
          refine⟨_,t', rfl,hsz', rfl,?_,?_,?_⟩
          · rw[hsz', J,←p2]
            have:(q::u).length*i.size=D.toList.length:=hxl2.symm
            rw[fV,this]
            show l.base+off*l.sz+(len*i.size+D.toList.length)≤c.size
            omega
          · intro e he
            rcases dG.1 he with k | k
            · rw[hes1] at k;rw[p5 e (FA (uq k)),c4]
            · exact(kc b1 k).1
          · intro G j e a y R f2 f3
            rw[q9,iH _ _ _ (by simp at hroom ⊢;omega)] at f3
            simp only[xj] at f3
            by_cases hi2:G<es.length
            · rw[B5 hi2] at R
              have Y:G<len:=by omega
              have f1' : es'[off+G]? = some e:=by
               rw[hes1,sx,if_pos Y,su] at R;exact R
              have hj:j<i.size:=by rw[←c4,←p5 e (uI f1')];exact(lr.1 f2).1
              have hm:G*i.size+i.size≤len*i.size:=by
               have:(G+1)*i.size≤len*i.size:=xY _ Y
               rw[mM] at this;exact this
              rw[if_neg (by omega)] at f3
              refine p6 (off+G) j e a y f1' f2 ?_
              rw[←vB,←f3];congr 1
              rw[K,c4,fV];omega
            · rw[B6 (by omega)] at R
              have Y:G-es.length<(q::u).length:=(lr.1 R).1
              have hj:j<i.size:=by rw[←(kc b1 (uI R)).1];exact(lr.1 f2).1
              have hm:(G-es.length)*i.size+i.size≤D.toList.length:=by
               have:(G-es.length+1)*i.size≤(q::u).length*i.size:=xY _ Y
               rw[mM] at this;rw[hxl2];exact this
              have hi4:G*i.size=len*i.size+(G-es.length)*i.size:=by
               rw[←fV];congr 1;omega
              rw[if_pos (by omega)] at f3
              refine W.2.2 _ j e a y R f2 ?_
              rw[←vB,←f3];congr 1
              omega)
         refine⟨_,w', _,run_append_fits T U p (by omega) (X w) (V w rfl) (by rw[Addr.om];exact N),?_,m1,m2⟩
         have hv:=VR.ai (g:=g.add S.nx ⟨l.cU,l.base+off*l.sz,i.size,l.bz⟩) (id:=S.nx) (off:=0) (len:=(es++q::u).length) (cap:=cap) (Gh.add_same _ _ _) (by rw[J];omega)
          (by
            show l.base+off*l.sz+(0+cap)*i.size=l.bz
            rw[fV,K,c4] at H
            rw[K,c4,uu];omega)
         rw[J] at hv ⊢
         rw[show(S.del id).nx=S.nx from rfl]
         simpa using hv
     · obtain⟨z,w', g', N,O,Q,r4⟩:=grow (S.del id) es sa f sc (hi.sub (ag.JN bE)) (by simpa using h) (by simp at c1 ⊢;omega) (by omega) (by rw[←A];exact hsr) hsE E
       exact⟨z,w', g', by rw[A];exact N,O,Q,(Ext.del bE c3).trans r4⟩
   · rename_i v
     split at h<;>try (simp at h;done)
     rename_i es C
     split at h<;>try (simp at h;done)
     rename_i hb
     simp only[aY] at hb
     have c1:=gb hb.1
     obtain⟨sa,f,sc,A,hsc,hsr,hsE,E⟩:=rZ (P:=P) hi C hs hb.2
     cases hs with | clip hv=>?_
     simp only[Value.slice.injEq] at A
     obtain⟨rfl,e2,e3⟩:=A
     subst e3
     subst e2
     obtain⟨z,w', g', N,O,Q,r4⟩:=grow S es _ _ sc hi h (by simp at c1 ⊢;omega) (by simp) hsr hsE E
     exact⟨z,w', g', N,O,Q,r4⟩
end
noncomputable section
def C3 (P:Program)(S:ag)(t:TypeId)(x:AV):Option Nat:=
 match P.underlying t,x with
 | some .string,.sc (.string s)=>some s.size
 | some (.array n _),_=>some n
 | some (.slice _),.lit es=>some es.length
 | some (.slice _),.ai _ _ n=>some n
 | some (.slice _),.fw=>some 0
 | some (.slice _),.an=>some 0
 | some (.map _ _),.sc (.map none)=>some 0
 | some (.map _ _),.cR id=>match S.get id with
   | some (.mp c)=>some c.length
   | _=>none
 | _,_=>none
variable {P : Program} {S : ag} {g : Gh} {w : World} {t ty : TypeId} {ts : List TypeId} {y : Value} {n : Nat}
theorem Dk (hi:Inv S g w){x:AV}(h:C3 P S t x=some n)(c:VR g x y) :
   (Builtin.len_ (t::ts).toArray ty #[y]).run P w=.ok (.int .i64 n) w:=by
 unfold C3 at h
 split at h<;>(try simp only[ba,reduceCtorEq] at h)
 · rename_i hu;subst h;cases c with | sc _=>simp[Builtin.len_,ah hu,goInt]
 · rename_i hu;subst h;cases y<;>simp[Builtin.len_,goInt,ah hu]
 · rename_i hu;subst h;cases c<;>simp[Builtin.len_,ah hu,goInt]
 · rename_i hu;subst h;cases c<;>simp[Builtin.len_,ah hu,goInt]
 · rename_i hu;subst h;cases c<;>simp[Builtin.len_,ah hu,goInt]
 · rename_i hu;subst h;cases c<;>simp[Builtin.len_,ah hu,goInt]
 · rename_i hu;subst h;cases c with | sc _=>simp[Builtin.len_,ah hu,goInt]
 · rename_i id hu
   split at h<;>simp only[ba,reduceCtorEq] at h
   rename_i p f
   subst h
   cases c with
   | cR i=>
     obtain⟨l', e,q2,q3⟩:=hi.ob _ _ f
     rw[i] at e;simp only[ba] at e;subst e
     obtain⟨es,k,j,o,q⟩:=q3
     simp[Builtin.len_,ah hu,goInt,getObj,Sem.run,j,o]
def T1 (P:Program)(t:TypeId)(x:AV):Option Nat:=
 match P.underlying t,x with
 | some (.slice _),.fw=>some 0
 | some (.slice _),.an=>some 0
 | _,_=>none
theorem My {x:AV}(h:T1 P t x=some n)(c:VR g x y) :
   (Builtin.cap_ (t::ts).toArray ty #[y]).run P w=.ok (.int .i64 n) w:=by
 unfold T1 at h
 split at h<;>simp only[ba,reduceCtorEq] at h
 · rename_i e hu
   subst h
   cases c
   simp[Builtin.cap_,ah hu,goInt]
 · rename_i e hu
   subst h
   cases c
   simp[Builtin.cap_,ah hu,goInt]
def og (P:Program)(t:TypeId)(a c:AV):Option AV:=
 match P.underlying t,a,wo c with
 | some (.array len el),.agg cs,some k=>match Nat.ble (k+1) len,tw P el with
   | true,some n=>Fy P el cs (k*n)
   | _,_=>none
 | some .string,.sc (.string s),some k=>match s[k]? with
   | some b=>some (.sc (.int .u8 b.toNat))
   | none=>none
 | _,_,_=>none
variable {x : Value} {a r : AV}
theorem Hu {i:AV}(h:og P t a i=some r)(ha:VR g a x)(hx:VR g i y):∃ z,(Instr.index t x y).run P w=.ok z w∧VR g r z:=by
 unfold og at h
 split at h<;>try (simp at h;done)
 · rename_i len el cs k hu f
   obtain⟨j,rfl⟩:=ib f hx
   split at h<;>try (simp at h;done)
   rename_i n c o
   have c:=gb c
   cases ha with
   | agg p hh=>
     obtain⟨z,e,q⟩:=vX (P:=P) (w:=w) h ⟨p,hh⟩
     refine⟨z,?_,q⟩
     simp only[Instr.index,asIntOf,Sem.run_bind,Sem.run_pure,Result.andThen_ok,ah hu]
     rw[if_pos (by constructor<;>simp;omega)]
     simp only[Sem.run_bind,run_sizeOf o,Result.andThen_ok]
     exact e
 · rename_i s k hu f
   obtain⟨j,rfl⟩:=ib f hx
   split at h<;>simp only[ba,reduceCtorEq] at h
   rename_i b hb
   subst h
   cases ha with
   | sc _=>exact⟨_,by simp[Instr.index,asIntOf,ah hu,hb],.sc rfl⟩
def Io (isMax:Bool):List AV→Option AV
 | [.sc (.int .i64 a)]=>some (.sc (.int .i64 a))
 | [.sc (.int k a),.sc (.int c b)]=>if k=c then some (.sc (.int k (match isMax with
  | true=>if b>a then b else a
  | false=>if b<a then b else a))) else none
 | _=>none
def Oi (P:Program)(S:ag)(ts:List TypeId)(d x:AV):Option (Nat×ag):=
 match ts with
 | t::_=>match P.underlying t,d with
   | some (.slice el),.ai id off len=>match S.get id,iX S x,tw P el with
     | some (.arr sz es),some xs,some n=>match Nat.beq sz n&&Nat.ble S.lim id&&Nat.ble (off+len) es.length&&sized n xs with
       | true=>some (min xs.length len,S.set id (.arr sz (mS es off (xs.take (min xs.length len)))))
       | false=>none
     | _,_,_=>none
   | _,_=>none
 | _=>none
variable {l : List AV} {xs : Array Value}
theorem Mz {ts:Array TypeId}(h:Io true l=some r)(f:hM g l xs):∃ z,(Builtin.max_ ts t xs).run P w=.ok z w∧VR g r z:=by
 unfold Io at h
 split at h<;>try (simp at h;done)
 · obtain⟨x,e,hx⟩:=f.get (k:=0) rfl
   have hs:xs.size=1:=f.1.symm
   have c:xs.toList=[x]:=by
    apply zz;intro k
    match k with
    | 0=>simpa using e
    | k+1=>rw[uv (by simp[hs])];simp
   simp only[ba] at h;subst h
   cases hx with | sc _=>exact⟨_,by simp[Builtin.max_,c],.sc rfl⟩
 · obtain⟨x,e,hx⟩:=f.get (k:=0) rfl
   obtain⟨y,i,hy⟩:=f.get (k:=1) rfl
   have hs:xs.size=2:=f.1.symm
   have c:xs.toList=[x,y]:=by
    apply zz;intro k
    match k with
    | 0=>simpa using e
    | 1=>simpa using i
    | k+2=>rw[uv (by simp[hs])];simp
   split at h<;>simp only[ba,reduceCtorEq] at h
   rename_i j;subst j;subst h
   cases hx with | sc _=>?_
   cases hy with | sc _=>?_
   exact⟨_,by simp[Builtin.max_,c,Builtin.max2],.sc rfl⟩
theorem MA {ts:Array TypeId}(h:Io false l=some r)(f:hM g l xs):∃ z,(Builtin.min_ ts t xs).run P w=.ok z w∧VR g r z:=by
 unfold Io at h
 split at h<;>try (simp at h;done)
 · obtain⟨x,e,hx⟩:=f.get (k:=0) rfl
   have hs:xs.size=1:=f.1.symm
   have c:xs.toList=[x]:=by
    apply zz;intro k
    match k with
    | 0=>simpa using e
    | k+1=>rw[uv (by simp[hs])];simp
   simp only[ba] at h;subst h
   cases hx with | sc _=>exact⟨_,by simp[Builtin.min_,c],.sc rfl⟩
 · obtain⟨x,e,hx⟩:=f.get (k:=0) rfl
   obtain⟨y,i,hy⟩:=f.get (k:=1) rfl
   have hs:xs.size=2:=f.1.symm
   have c:xs.toList=[x,y]:=by
    apply zz;intro k
    match k with
    | 0=>simpa using e
    | 1=>simpa using i
    | k+2=>rw[uv (by simp[hs])];simp
   split at h<;>simp only[ba,reduceCtorEq] at h
   rename_i j;subst j;subst h
   cases hx with | sc _=>?_
   cases hy with | sc _=>?_
   exact⟨_,by simp[Builtin.min_,c,Builtin.min2],.sc rfl⟩
theorem qH.take {g:Gh}{n:Nat}{es:List AV}{c:Array Value}(h:qH g n es c)(k:Nat):qH g n (es.take k) c:=
 ⟨lH (xY _ (by simp;omega)) h.1,fun e o=>h.2.1 e (uq o),fun i j e a y f p q=>by
  rw[sx] at f
  split at f
  · exact h.2.2 i j e a y f p q
  · simp at f⟩
variable {es : List AV}
theorem LQ {x:AV}{a:Option Addr}{f k:Nat}(h:sD S x=some es)(s:VR g x (.slice a n f))(p:k≤es.length)(v:k≤f):∃ x', iX S x' = some (es.take k)∧VR g x' (.slice a k f):=by
 unfold sD at h
 split at h<;>try (simp at h;done)
 · simp only[ba] at h;subst h
   refine⟨.lit (List.take k _),rfl,?_⟩
   cases s with
   | jZ=>simp at p;subst p;exact .jZ
   | lit F hs hb D hh=>
     rename_i es b o sz c
     have C:(es.take k).length=k:=by simp;omega
     have:=VR.lit (g:=g) (es:=es.take k) (cap:=f) F (sz:=sz) (fun e G=>hs e (uq G)) (lH (Nat.add_le_add_left (xY _ (by omega)) _) hb) (by omega)
      (fun i j e a x u H I=>by
       rw[sx] at u
       split at u
       · exact hh i j e a x u H I
       · simp at u)
     simp_all
 · rename_i id off len
   split at h<;>try (simp at h;done)
   rename_i sz q J
   split at h<;>simp only[ba,reduceCtorEq] at h
   rename_i A
   have E:=gb A
   subst h
   have C:((q.drop off).take len).length=len:=by simp;omega
   rw[C] at p
   refine⟨.ai id off k,?_,?_⟩
   · simp only[iX,sD,J]
     rw[show(off+k).ble q.length=true from EY (by omega)]
     simp only[ba]
     rw[List.take_take,Nat.min_eq_left p]
   · cases s with
     | hZ K L=>simp at p;subst p;exact .hZ K L
     | ai B M hb=>exact .ai B v hb
 · simp only[ba] at h;subst h
   simp at p;subst p
   cases s with | an=>exact⟨.an,rfl,.an⟩
 · simp only[ba] at h;subst h
   simp at p;subst p
   cases s with | fw=>exact⟨.fw,rfl,.fw⟩
variable {cap : Nat}
theorem Qs {x:AV}{a:Option Addr}(h:sD S x=some es)(c:VR g x (.slice a n cap)):es.length=n∧n≤cap:=by
 unfold sD at h
 split at h<;>try (simp at h;done)
 · simp only[ba] at h;subst h
   cases c<;>simp_all
 · split at h<;>try (simp at h;done)
   split at h<;>simp only[ba,reduceCtorEq] at h
   rename_i e
   have f:=gb e
   subst h
   cases c with
   | hZ=>simp_all
   | ai j i hb=>exact⟨by simp;omega,i⟩
 · simp only[ba] at h;subst h
   cases c<;>simp_all
 · simp only[ba] at h;subst h
   cases c<;>simp_all
theorem Yc {x:AV}{a:Option Addr}{k:Nat}(h:iX S x=some es)(c:VR g x (.slice a n cap))(e:k≤es.length):∃ x' c', iX S x' = some (es.take k)∧VR g x' (.slice a k c'):=by
 unfold iX at h
 split at h
 · cases c with | clip c=>?_
   obtain⟨f,i⟩:=Qs h c
   obtain⟨x', p,q⟩:=LQ h c e (by omega)
   exact⟨x', _,p,q⟩
 · obtain⟨f,i⟩:=Qs h c
   obtain⟨x', p,q⟩:=LQ h c e (by omega)
   exact⟨x', _,p,q⟩
variable {S' : ag}
theorem Kd (hi:Inv S g w){d x:AV}{dv xv:Value}(h:Oi P S ts d x=some (n,S'))(hd:VR g d dv)(hx:VR g x xv) :
   ∃ w', (Builtin.copy_ ts.toArray t #[dv,xv]).run P w=.ok (.int .i64 n) w' ∧ Inv S' g w' ∧ Ext S g w S' g w' := by
 unfold Oi at h
 split at h<;>try (simp at h;done)
 rename_i st ts
 split at h<;>try (simp at h;done)
 rename_i el id off len I
 split at h<;>try (simp at h;done)
 rename_i sz es xs sn F J K
 split at h<;>simp only[ba,lR,reduceCtorEq] at h
 rename_i hb
 simp only[aY] at hb
 obtain⟨⟨⟨W,T⟩,b3⟩,b4⟩:=hb
 have W:=np W
 have T:=gb T
 have b3:=gb b3
 obtain⟨rfl,rfl⟩:=h
 subst W
 have q:sized sz (xs.take (min xs.length len))=true:=dh.2 fun e X=>dh.1 b4 e (uq X)
 have f:(xs.take (min xs.length len)).length=min xs.length len:=by simp
 obtain⟨Y,s,xc,hxe,hxcap,_,_,_⟩:=rZ (P:=P) hi J hx b4
 subst hxe
 obtain⟨x', c', hx1,hx2⟩:=Yc (k:=min xs.length len) J hx (Nat.min_le_left _ _)
 obtain⟨ya,ycap,cc,A,hycap,L,M,p⟩:=rZ (P:=P) hi hx1 hx2 q
 rw[f] at A L p
 simp only[Value.slice.injEq] at A
 obtain⟨rfl,_,rfl⟩:=A
 have B:(Builtin.firstCells sz (min xs.length len) (.slice Y xs.length s)).run P w=.ok cc w:=by
   rw[←L w rfl];cases Y<;>rfl
 have u:(Builtin.lenOf (.slice Y xs.length s)).run P w=.ok xs.length w:=rfl
 cases hd with
 | hZ=>
   rename_i a
   have h0:min xs.length 0=0:=Nat.min_zero _
   rw[h0] at B p ⊢
   have:cc = #[]:=Array.eq_empty_of_size_eq_zero (by rw[p];simp)
   subst this
   refine⟨w,?_,?_⟩
   · simp only[Builtin.copy_,q9,ur,q8,Sem.run_bind,ah I,Result.andThen_ok,u,run_sizeOf K]
     show((Builtin.firstCells sz (Nat.min xs.length 0) _).run P w).andThen _=_
     rw[show Nat.min xs.length 0=0 from h0,B]
     simp[storeCells,goInt]
   · have e0:mS es off (xs.take 0)=es:=by cases es<;>rfl
     rw[e0]
     have bE:=ag.gv F
     obtain⟨l,G,q2,q3⟩:=hi.ob _ _ F
     obtain⟨c,U,Z,p2⟩:=q3
     exact hi.jz F T G rfl Z (fun _ _=>rfl) rfl ⟨rfl,bJ _⟩ rfl ⟨c,U,rfl,p2⟩
 | ai hl hcap hbz=>
   rename_i cap l
   obtain⟨l', G,q2,q3⟩:=hi.ob _ _ F
   rw[hl] at G;simp only[ba] at G;subst G
   obtain⟨c,U,Z,p2,H,p4,p5,p6⟩:=q3
   have N:cc.toList.length=min xs.length len*sz:=by rw[show cc.toList.length=cc.size from xh];exact p
   have hroom:l.base+off*l.sz+cc.toList.length≤c.size:=by
     rw[N,H]
     have:(off+min xs.length len)*sz≤es.length*sz:=xY _ (by omega)
     rw[fV] at this;omega
   have R:∀ y,y∈cc.toList→y.oneCell' = true:=by
     intro y hy
     obtain⟨k,D⟩:=gM hy
     have O:cc[k]? = some y:=by simpa using D
     have C:k<min xs.length len*sz:=by rw[←p];exact(y8.1 O).1
     have hsp:0<sz:=by
       rcases Nat.eq_zero_or_pos sz with e | e
       · rw[e] at C;simp at C
       · exact e
     have h1:k/sz<(xs.take (min xs.length len)).length:=by rw[f];exact Nat.div_lt_of_lt_mul (by rw[Nat.mul_comm];exact C)
     have h2:k%sz<sz:=Nat.mod_lt _ hsp
     obtain⟨s1,s2⟩:=kc q (cM h1)
     have h3:k%sz<(xs.take (min xs.length len))[k/sz].cells.length:=by rw[s1];exact h2
     refine rH (dh.1 s2 _ (cM h3)) (M.2.2 _ _ _ _ y (qm h1) (qm h3) ?_)
     rw[←O];congr 1;rw[Nat.mul_comm];exact Nat.div_add_mod k sz
   obtain⟨w', r1,r2,r3,r4,r5,r6,r7⟩:=oD (P:=P) (b:=l.cU) (o:=l.base+off*l.sz) (t:=U) cc.toList w c 0 Z (by omega) R
   refine⟨w', ?_,?_⟩
   · simp only[Builtin.copy_,q9,ur,q8,Sem.run_bind,ah I,Result.andThen_ok,u,run_sizeOf K]
     show((Builtin.firstCells sz (min xs.length len) _).run P w).andThen _=_
     rw[B]
     simp only[Result.andThen_ok,r1,Sem.run_pure]
     rfl
   · refine hi.jz F T hl r4 r2 r3 r5 r6 r7 ⟨_,U,rfl,by simp[gC,p2],H,by simp[gC];exact p4,?_,?_⟩
     · intro e X
       obtain⟨k,D⟩:=gM X
       rw[iH _ _ _ (by rw[f];omega)] at D
       split at D
       · exact(kc q (uI D)).1
       · exact p5 e (uI D)
     · intro i j e a y v V E
       rw[iH _ _ _ (by rw[f];omega),f] at v
       rw[q9,iH _ _ _ (by omega),N] at E
       simp only[xj] at E
       by_cases Q:off≤i∧i<off+min xs.length len
       · rw[if_pos Q] at v
         have hj:j<sz:=by rw[←(kc q (uI v)).1];exact(lr.1 V).1
         have hm:(i-off)*sz+sz≤min xs.length len*sz:=by
          have:(i-off+1)*sz≤min xs.length len*sz:=xY _ (by omega)
          rw[mM] at this;exact this
         have hio:i*sz=off*sz+(i-off)*sz:=by rw[←fV];congr 1;omega
         rw[if_pos (by rw[H];omega)] at E
         refine M.2.2 _ j e a y v V ?_
         rw[←vB,←E];congr 1;rw[H];omega
       · rw[if_neg Q] at v
         have hj:j<sz:=by rw[←p5 e (uI v)];exact(lr.1 V).1
         have hne:¬ (l.base+off*l.sz≤l.base+i*sz+j∧l.base+i*sz+j<l.base+off*l.sz+min xs.length len*sz):=by
          rw[H]
          rintro⟨c1,c2⟩
          rcases jT i off with hlt | hge
          · have:(i+1)*sz≤off*sz:=xY _ hlt
            rw[mM] at this;omega
          · have:(off+min xs.length len)*sz≤i*sz:=xY _ (by omega)
            rw[fV] at this;omega
         rw[if_neg hne] at E
         exact p6 i j e a y v V (by simpa using E)
def JP (P:Program)(S:ag)(ts:List TypeId)(x:AV):Option ag:=
 match ts with
 | t::_=>match P.underlying t,x with
   | some (.slice el),.ai id off len=>match ja P el,S.get id with
     | some z,some (.arr sz es)=>match Nat.beq z.cells.length sz&&z.cells.all eI&&Nat.ble S.lim id&&Nat.ble (off+len) es.length with
       | true=>some (S.set id (.arr sz (mS es off (List.replicate len z))))
       | false=>none
     | _,_=>none
   | _,_=>none
 | _=>none
theorem Hv (hi:Inv S g w){x:AV}(h:JP P S ts x=some S')(hx:VR g x y) :
   ∃ w', (Builtin.clear_ ts.toArray ty #[y]).run P w=.ok (.tuple #[]) w' ∧ Inv S' g w' ∧ Ext S g w S' g w' := by
 unfold JP at h
 split at h<;>try (simp at h;done)
 rename_i t ts
 split at h<;>try (simp at h;done)
 rename_i el id off len hu
 split at h<;>try (simp at h;done)
 rename_i z sz es J o
 split at h<;>simp only[ba,reduceCtorEq] at h
 rename_i hb
 simp only[aY] at hb
 obtain⟨⟨⟨p,G⟩,i⟩,B⟩:=hb
 have p:=np p
 have i:=gb i
 have B:=gb B
 subst h
 obtain⟨C,E,F⟩:=jM (P:=P) (w:=w) (g:=g) J
 have j:=kb F G
 have f:C.cells.size=sz:=by rw[←j.1,p]
 obtain⟨l,q,q2,q3⟩:=hi.ob _ _ o
 have K:qH g sz (List.replicate len z) (Builtin.zeroCells C.cells len):=by
   have:=AO (n:=len) (m:=len) j (bJ _)
   rw[f] at this
   simpa [Builtin.zeroCells,f] using this
 obtain ⟨w', L,M,N⟩:=F3 (P:=P) (off:=off) (xs:=List.replicate len z) (cc:=Builtin.zeroCells C.cells len) hi o i q
   (dh.2 fun e O=>by rw[(List.mem_replicate.1 O).2];simp[p,G]) K (by simp[Builtin.zeroCells,f]) (by simpa using B)
 have H:len=0→mS es off (List.replicate len z)=es:=by
   intro Q;subst Q;cases es<;>rfl
 cases hx with
 | hZ s R=>
   refine⟨w,by simp[Builtin.clear_,ah hu],?_⟩
   rw[H rfl]
   obtain⟨c,u,v,A⟩:=q3
   exact hi.jz o i q rfl v (fun _ _=>rfl) rfl ⟨rfl,bJ _⟩ rfl ⟨c,u,rfl,A⟩
 | ai s I T=>
   rename_i cap U
   rw[q] at s;simp only[ba] at s;subst s
   have D:l.sz=sz:=by obtain⟨c,u,v,A,D,_⟩:=q3;exact D
   cases len with
   | zero=>
     refine⟨w,by simp[Builtin.clear_,ah hu],?_⟩
     rw[H rfl]
     obtain⟨c,u,v,A⟩:=q3
     exact hi.jz o i q rfl v (fun _ _=>rfl) rfl ⟨rfl,bJ _⟩ rfl ⟨c,u,rfl,A⟩
   | succ k=>
     refine⟨w', ?_,M,N⟩
     rw[D]
     simp[Builtin.clear_,ah hu,E,L]
def Zi (d:TypeDesc)(a b:AV):Option Bool:=
 match d,a,b with
 | .int _,.sc (.int k x),.sc (.int c y)=>if k=c then some (x==y) else none
 | .string,.sc (.string x),.sc (.string y)=>some (x.data.toList==y.data.toList)
 | .bool,.sc (.bool x),.sc (.bool y)=>some (x==y)
 | _,_,_=>none
def uw (d:TypeDesc)(k:AV):List (AV×AV)→Nat→Option (Option (Nat×AV))
 | [],_=>some none
 | c::r,i=>match Zi d k c.1 with
   | some true=>some (some (i,c.2))
   | some false=>uw d k r (i+1)
   | none=>none
def rD (d:TypeDesc):Bool:=
 match d with
 | .int _=>true
 | .string=>true
 | .bool=>true
 | _=>false
variable {d : TypeDesc} {b : AV}
theorem IF {r:Bool}(h:Zi d a b=some r)(ha:VR g a x)(hb:VR g b y):Instr.sameNow d x y=some r:=by
 unfold Zi at h
 split at h<;>try (simp at h;done)
 · cases ha with | sc _=>?_
   cases hb with | sc _=>?_
   simp_all[Instr.sameNow]
 · cases ha with | sc _=>?_
   cases hb with | sc _=>?_
   simp_all[Instr.sameNow,beq_toListBytes,ByteArray.toList_eq]
 · cases ha with | sc _=>?_
   cases hb with | sc _=>?_
   simp only[ba] at h;subst h;simp[Instr.sameNow]
variable {k : AV}
theorem rI (C:VR g k x):∀ {c:List (AV×AV)} {es:List MapEntry} {i:Nat} {r:Option (Nat×AV)},uw d k c i=some r→es.length=c.length →
   (∀(j:Nat) (f:AV×AV) (e:MapEntry),c[j]? = some f→es[j]? = some e→VR g f.1 e.key∧VR g f.2 e.val) →
   ∃ q,Instr.findNow d x es i=some q∧(match r,q with
     | none,none=>True
     | some (j,v),some (D,y)=>j=D∧VR g v y∧i≤j∧j<i+c.length∧(∃ f e,c[j-i]? = some f∧es[j-i]? = some e∧Zi d k f.1=some true)
     | _,_=>False):=by
 intro c
 induction c with
 | nil=>
   intro es i r h s _
   simp only[uw,ba] at h;subst h
   have:es=[]:=vA (by simpa using s)
   subst this
   exact⟨none,rfl,trivial⟩
 | cons f c G=>
   intro es i r h s E
   cases es with
   | nil=>simp at s
   | cons e es=>
     have A:=E 0 f e rfl rfl
     simp only[uw] at h
     split at h<;>try (simp at h;done)
     · rename_i u
       simp only[ba] at h;subst h
       refine⟨some (i,e.val),?_,rfl,A.2,bJ _,by simp,f,e,by simp,by simp,u⟩
       simp only[Instr.findNow,IF u C A.1]
     · rename_i u
       obtain⟨q,H,q2⟩:=G h (by simpa using s) (fun j o B p I=>E (j+1) o B (by simpa using p) (by simpa using I))
       refine⟨q,by simp only[Instr.findNow,IF u C A.1];exact H,?_⟩
       cases r with
       | none=>cases q with
         | none=>trivial
         | some _=>exact q2.elim
       | some J=>
         obtain⟨j,v⟩:=J
         cases q with
         | none=>exact q2.elim
         | some K=>
           obtain⟨D,y⟩:=K
           obtain⟨L,a2,a3,a4,o,B,a5,a6,a7⟩:=q2
           have F:j-i=(j-(i+1))+1:=by omega
           exact⟨L,a2,by omega,by simp;omega,o,B,by rw[F];simpa using a5,by rw[F];simpa using a6,a7⟩
variable {kt : TypeId}
theorem Hw {b:Bool}(hu:P.underlying kt=some d)(c:rD d=true):(Instr.checkKey b (n+1) kt x).run P w=.ok () w:=by
 simp only[Instr.checkKey,Sem.run_bind,ah hu,Result.andThen_ok]
 cases d<;>first
  | (simp[rD] at c;done)
  | (cases x<;>rfl)
theorem run_checkKey {b:Bool}(hu:P.underlying kt=some d)(c:rD d=true):(Instr.checkKey b 10000 kt x).run P w=.ok () w:=
 Hw (n:=9999) hu c
theorem run_findKey {es:List MapEntry}{q:Option (Nat×Value)}(hu:P.underlying kt=some d)(h:Instr.findNow d x es 0=some q) :
  (Instr.findKey kt x es).run P w=.ok q w:=by
 simp only[Instr.findKey,Sem.run_bind,ah hu,Result.andThen_ok,h,Sem.run_pure]
def s9 (P:Program)(S:ag)(t:TypeId)(m k:AV)(ok:Bool):Option AV:=
 match P.underlying t with
 | some (.map kt e)=>match P.underlying kt,(match m with
     | .cR id=>match S.get id with
       | some (.mp c)=>some c
       | _=>none
     | .sc (.map none)=>some []
     | _=>none) with
   | some d,some c=>match rD d,uw d k c 0 with
     | true,some (some (_,v))=>some (match ok with
       | true=>.bO [v,.sc (.bool true)]
       | false=>v)
     | true,some none=>match ja P e with
       | some z=>some (match ok with
         | true=>.bO [z,.sc (.bool false)]
         | false=>z)
       | none=>none
     | _,_=>none
   | _,_=>none
 | _=>none
theorem hM.two (h:VR g a x)(c:VR g b y):hM g [a,b] #[x,y]:=by simp_all[hM.cons,hM.nil]
theorem VR.two {g:Gh}{a b:AV}{x y:Value}(h:VR g a x)(c:VR g b y):VR g (.bO [a,b]) (.tuple #[x,y]):=.bO (hM.two h c).1 (hM.two h c).2
variable {m : AV}
theorem aea (hi:Inv S g w){c:List (AV×AV)}(h:(match m with
     | .cR id=>match S.get id with
       | some (.mp c)=>some c
       | _=>none
     | .sc (.map none)=>some []
     | _=>none)=some c)(o:VR g m x):∃ es:Array MapEntry,((x=.map none∧es = #[])∨∃ r ck,x=.map (some r)∧w.heap[r]? = some (.map es ck))∧es.toList.length=c.length∧(∀(j:Nat) (f:AV×AV) (e:MapEntry),c[j]? = some f→es.toList[j]? = some e→VR g f.1 e.key∧VR g f.2 e.val):=by
 split at h<;>try (simp at h;done)
 · split at h<;>simp only[ba,reduceCtorEq] at h
   rename_i p q
   subst h
   cases o with
   | cR s=>
     obtain⟨l', i,q2,q3⟩:=hi.ob _ _ q
     rw[s] at i;simp only[ba] at i;subst i
     obtain⟨es,k,u,v,A,_⟩:=q3
     exact⟨es,.inr ⟨_,k,rfl,u⟩,by simpa using v,fun j f e a b=>A j f e a (by simpa using b)⟩
 · simp only[ba] at h;subst h
   cases o<;>simp_all
variable {ok : Bool}
theorem Gw (hi:Inv S g w)(h:s9 P S t m k ok=some r)(D:VR g m x)(s:VR g k y) :
   ∃ z,(Instr.lookup t x y ok).run P w=.ok z w∧VR g r z:=by
 unfold s9 at h
 split at h<;>try (simp at h;done)
 rename_i kt I hu
 split at h<;>try (simp at h;done)
 rename_i d G f p
 obtain⟨es,j,u,A⟩:=aea hi p D
 split at h<;>try (simp at h;done)
 · rename_i i v c hf
   simp only[ba] at h
   obtain⟨q,o,q2⟩:=rI s hf u A
   cases q with
   | none=>exact q2.elim
   | some B=>
     obtain⟨J,z⟩:=B
     obtain⟨K,a2,_⟩:=q2
     refine⟨if ok then .tuple #[z,.bool true] else z,?_,?_⟩
     · rcases j with⟨rfl,rfl⟩ | ⟨E,ck,rfl,j⟩ <;>
        simp only[Instr.lookup,Sem.run_bind,ah hu,Result.andThen_ok,getObj,Sem.run,Sem.run_pure, *, run_checkKey f c,run_findKey f o]
     · subst h;cases ok
       · exact a2
       · exact VR.two a2 (.sc rfl)
 · rename_i c hf
   split at h<;>simp only[ba,reduceCtorEq] at h
   rename_i z F
   obtain⟨C,H,e⟩:=jM (P:=P) (w:=w) (g:=g) F
   obtain⟨q,o,q2⟩:=rI s hf u A
   cases q with
   | some B=>exact q2.elim
   | none=>
     refine⟨if ok then .tuple #[C,.bool false] else C,?_,?_⟩
     · rcases j with⟨rfl,rfl⟩ | ⟨E,ck,rfl,j⟩ <;>
        simp only[Instr.lookup,Sem.run_bind,ah hu,Result.andThen_ok,getObj,Sem.run,Sem.run_pure, *, run_checkKey f c,run_findKey f o]
     · subst h;cases ok
       · exact e
       · exact VR.two e (.sc rfl)
def oq (P:Program)(S:ag)(t:TypeId)(m k v:AV):Option ag:=
 match P.underlying t,m with
 | some (.map kt _),.cR id=>match P.underlying kt,S.get id with
   | some d,some (.mp c)=>match rD d&&Nat.ble S.lim id,uw d k c 0 with
     | true,some (some (i,_))=>some (S.set id (.mp (c.set i (k,v))))
     | true,some none=>some (S.set id (.mp (c++[(k,v)])))
     | _,_=>none
   | _,_=>none
 | _,_=>none
theorem U5 (h:Zi d a b=some true)(ha:VR g a x)(hb:VR g b y):Instr.sameBits 10000 y x=true:=by
 unfold Zi at h
 split at h<;>try (simp at h;done)
 · cases ha with | sc _=>?_
   cases hb with | sc _=>?_
   simp_all[Instr.sameBits]
 · cases ha with | sc _=>?_
   cases hb with | sc _=>?_
   rename_i xs ys _ _
   simp only[ba] at h
   have:(ys==xs)=true:=by rw[beq_toListBytes,ByteArray.toList_eq,ByteArray.toList_eq];simp at h ⊢;exact h.symm
   simpa [Instr.sameBits] using this
 · cases ha with | sc _=>?_
   cases hb with | sc _=>?_
   simp at h;subst h;simp[Instr.sameBits]
variable {z : Value}
theorem xP (hi:Inv S g w){v:AV}(h:oq P S t m k v=some S')(Z:VR g m x)(C:VR g k y)(X:VR g v z) :
   ∃ w', (Instr.mapUpdate t x y z).run P w=.ok () w' ∧ Inv S' g w' ∧ Ext S g w S' g w' := by
 unfold oq at h
 split at h<;>try (simp at h;done)
 rename_i kt et id hu
 split at h<;>try (simp at h;done)
 rename_i d I K N
 cases Z with
 | cR O=>
   rename_i l
   obtain⟨l', Q,q2,q3⟩:=hi.ob _ _ N
   rw[O] at Q;simp only[ba] at Q;subst Q
   obtain⟨es,ck,R,H,L,T,U⟩:=q3
   have J:∀(j:Nat) (D:AV×AV) (e:MapEntry),I[j]? = some D→es.toList[j]? = some e→VR g D.1 e.key∧VR g D.2 e.val:=fun j D e a b=>L j D e a (by simpa using b)
   have W:=(y8.1 R).1
   have A:∀(o:Obj) (k:Nat),k≠l.cU→(w.heap.setIfInBounds l.cU o)[k]? = w.heap[k]? := by
     intro o k C;rw[ny,if_neg (Ne.symm C)]
   have B:∀ o:Obj,(w.heap.setIfInBounds l.cU o)[l.cU]? = some o:=by
     intro o;rw[ny,if_pos rfl,if_pos W]
   split at h<;>try (simp at h;done)
   · rename_i i v0 f hf
     simp only[aY] at f
     simp only[ba] at h;subst h
     obtain⟨q,V,M⟩:=rI C hf (by simpa using H) J
     cases q with
     | none=>exact M.elim
     | some Y=>
       obtain⟨j', y'⟩:=Y
       obtain⟨rfl,a2,a3,a4,D,e,a5,a6,a7⟩:=M
       simp only[Nat.sub_zero] at a5 a6
       have u:es[i]? = some e:=by simpa using a6
       have G:=U5 a7 C (L i D e a5 u).1
       refine⟨{ w with heap:=w.heap.setIfInBounds l.cU (.map (es.modify i fun e=>{ e with key:=y,val:=z }) ck) },?_,?_⟩
       · simp only[Instr.mapUpdate,Sem.run_bind,ah hu,Result.andThen_ok,getObj,Sem.run,R,run_checkKey K f.1,run_findKey K V,u,j9,xm,Instr.keyThatStays,G,if_true,Sem.run_pure,setObj]
       · refine hi.jz N (gb f.2) O (by simp) (B _) (A _) rfl ⟨rfl,bJ _⟩ rfl ⟨_,ck,rfl,by simp[H],?_,by simpa using T,fun j E c=>by
           rw[Fw] at c
           by_cases s:i=j
           · subst s
             rw[if_pos rfl,u] at c
             simp only[j9,ba] at c
             subst c;exact U i e u
           · rw[if_neg s] at c
             exact U j E c⟩
         intro j F E p c
         rw[Fw] at c
         rw[List.getElem?_set] at p
         by_cases s:i=j
         · subst s
           rw[if_pos rfl,u] at c
           rw[if_pos rfl,if_pos (by omega)] at p
           simp only[j9,ba] at p c
           subst p;subst c;exact⟨C,X⟩
         · rw[if_neg s] at p c
           exact L j F E p c
   · rename_i f hf
     simp only[aY] at f
     simp only[ba] at h;subst h
     obtain⟨q,V,M⟩:=rI C hf (by simpa using H) J
     cases q with
     | some Y=>exact M.elim
     | none=>
       refine⟨{ w with heap:=w.heap.setIfInBounds l.cU (.map (es.push { key:=y,val:=z,born:=ck }) (ck+1)) },?_,?_⟩
       · simp only[Instr.mapUpdate,Sem.run_bind,ah hu,Result.andThen_ok,getObj,Sem.run,R,run_checkKey K f.1,run_findKey K V,setObj]
       · refine hi.jz N (gb f.2) O (by simp) (B _) (A _) rfl ⟨rfl,bJ _⟩ rfl ⟨_,ck+1,rfl,by simp[H],?_,by simp[T],fun j E c=>by
           rw[Array.getElem?_push] at c
           by_cases s:j=es.size
           · subst s
             rw[if_pos rfl] at c
             simp only[ba] at c
             subst c;exact T
           · rw[if_neg s] at c
             exact U j E c⟩
         intro j F E p c
         rw[Array.getElem?_push] at c
         by_cases s:j=es.size
         · subst s
           rw[if_pos rfl] at c
           rw[H,B6 (bJ _)] at p
           simp at p c
           subst p;subst c;exact⟨C,X⟩
         · rw[if_neg s] at c
           have:j<I.length:=by rw[←H];exact(y8.1 c).1
           rw[B5 this] at p
           exact L j F E p c
def ym (S:ag):Option (AV×ag):=
 match Nat.ble (S.nx+1) 8192&&Nat.ble S.lim S.nx with
 | true=>some (.cR S.nx,S.add (.mp []))
 | false=>none
theorem DZ (hi:Inv S g w)(h:ym S=some (r,S')) :
  ∃ z w' g', (Instr.makeMap t none).run P w=.ok z w' ∧ VR g' r z∧Inv S' g' w' ∧ Ext S g w S' g' w' := by
 unfold ym at h
 split at h<;>simp only[ba,lR,reduceCtorEq] at h
 rename_i hb
 obtain⟨rfl,rfl⟩:=h
 simp only[aY] at hb
 have c2:=gb hb.1
 have c3:=gb hb.2
 obtain⟨c,q2⟩:=hi.alloc (w' := w.alloc (.map #[] 0)) (by omega) (o:=.mp []) (ob:=.map #[] 0) (l:=⟨w.heap.size,0,0,0⟩) rfl ⟨#[],0,rfl,rfl,by simp,rfl,by simp⟩ rfl rfl ⟨rfl,bJ _⟩ rfl c3
 exact⟨.map (some w.heap.size),_,_,by simp[Instr.makeMap],VR.cR (l:=⟨w.heap.size,0,0,0⟩) (Gh.add_same _ _ _),c,q2⟩
def x6 (P:Program)(S:ag)(t:TypeId)(x:AV):Option (AV×ag):=
 match P.underlying t,x with
 | some .string,.sc (.string s)=>match Nat.ble (S.nx+1) 8192&&Nat.ble S.lim S.nx with
   | true=>some (.ptr S.nx 0 0,S.add (.si s 0))
   | false=>none
 | some (.map _ _),.sc (.map none)=>match Nat.ble (S.nx+1) 8192&&Nat.ble S.lim S.nx with
   | true=>some (.ptr S.nx 0 0,S.add .mz)
   | false=>none
 | some (.map _ _),.cR id=>match S.get id,Nat.ble (S.nx+1) 8192&&Nat.ble S.lim S.nx with
   | some (.mp c),true=>some (.ptr S.nx 0 0,S.add (.mi id c.length []))
   | _,_=>none
 | _,_=>none
theorem Hx (hi:Inv S g w){x:AV}(h:x6 P S t x=some (r,S'))(e:VR g x y) :
   ∃ z w' g', (Instr.range t y).run P w=.ok z w' ∧ VR g' r z∧Inv S' g' w' ∧ Ext S g w S' g' w' := by
 unfold x6 at h
 split at h<;>try (simp at h;done)
 · rename_i s hu
   split at h<;>simp only[ba,lR,reduceCtorEq] at h
   rename_i hb
   obtain⟨rfl,rfl⟩:=h
   simp only[aY] at hb
   have c2:=gb hb.1
   have c3:=gb hb.2
   cases e with | sc _=>?_
   obtain⟨c,q2⟩:=hi.alloc (w' := w.alloc (.stringIter s 0)) (by omega) (o:=.si s 0) (ob:=.stringIter s 0) (l:=⟨w.heap.size,0,0,0⟩) rfl ⟨rfl,rfl⟩ rfl rfl ⟨rfl,bJ _⟩ rfl c3
   exact⟨.pointer (some ⟨w.heap.size,0,none⟩),_,_,by simp[Instr.range,ah hu],by simpa using VR.ptr (i:=0) (j:=0) (l:=⟨w.heap.size,0,0,0⟩) (Gh.add_same g S.nx _),c,q2⟩
 · rename_i hu
   split at h<;>simp only[ba,lR,reduceCtorEq] at h
   rename_i hb
   obtain⟨rfl,rfl⟩:=h
   simp only[aY] at hb
   have c2:=gb hb.1
   have c3:=gb hb.2
   cases e with | sc _=>?_
   obtain⟨c,q2⟩:=hi.alloc (w' := w.alloc (.mapIter none 0 #[] 0)) (by omega) (o:=.mz) (ob:=.mapIter none 0 #[] 0) (l:=⟨w.heap.size,0,0,0⟩) rfl ⟨0,#[],0,rfl,rfl⟩ rfl rfl ⟨rfl,bJ _⟩ rfl c3
   exact⟨.pointer (some ⟨w.heap.size,0,none⟩),_,_,by simp[Instr.range,ah hu],by simpa using VR.ptr (i:=0) (j:=0) (l:=⟨w.heap.size,0,0,0⟩) (Gh.add_same g S.nx _),c,q2⟩
 · rename_i id hu
   split at h<;>simp only[ba,lR,reduceCtorEq] at h
   rename_i p u hb
   obtain⟨rfl,rfl⟩:=h
   simp only[aY] at hb
   have c2:=gb hb.1
   have c3:=gb hb.2
   cases e with | cR q=>?_
   rename_i lm
   obtain⟨l', f,a2,a3⟩:=hi.ob _ _ u
   rw[q] at f;simp only[ba] at f;subst f
   obtain⟨es,ck,v,A,C,B,D⟩:=a3
   obtain⟨c,q2⟩:=hi.alloc (w' := w.alloc (.mapIter (some lm.cU) ck #[] ck)) (by omega) (o:=.mi id p.length []) (ob:=.mapIter (some lm.cU) ck #[] ck) (l:=⟨w.heap.size,0,0,0⟩) rfl ⟨lm,q,by rw[B,A],rfl⟩ rfl rfl ⟨rfl,bJ _⟩ rfl c3
   exact⟨.pointer (some ⟨w.heap.size,0,none⟩),_,_,by simp[Instr.range,ah hu,getObj,Sem.run,v],by simpa using VR.ptr (i:=0) (j:=0) (l:=⟨w.heap.size,0,0,0⟩) (Gh.add_same g S.nx _),c,q2⟩
def zA (S:ag)(it:AV)(isString:Bool):Option (AV×ag):=
 match it,isString with
 | .ptr id 0 0,true=>match S.get id with
   | some (.si s p)=>match Nat.ble (p+1) s.size,Nat.ble S.lim id with
     | true,true=>some (.bO [.sc (.bool true),.sc (.int .i64 p),.sc (.int .i32 (Utf8.decode s p).1)],S.set id (.si s (p+(Utf8.decode s p).2)))
     | false,_=>some (.bO [.sc (.bool false)],S)
     | _,_=>none
   | _=>none
 | _,_=>none
theorem hM.three {c:AV}(h:VR g a x)(f:VR g b y)(e:VR g c z):hM g [a,b,c] #[x,y,z]:=hM.cons (xs:=[y,z]) h (hM.two f e)
variable {it : AV}
theorem Ke (hi:Inv S g w){b:Bool}(h:zA S it b=some (r,S'))(o:VR g it x) :
   ∃ z w', (Instr.next x b t).run P w=.ok z w' ∧ VR g r z∧Inv S' g w' ∧ Ext S g w S' g w' := by
 unfold zA at h
 split at h<;>try (simp at h;done)
 rename_i id
 split at h<;>try (simp at h;done)
 rename_i s p i
 cases o with
 | ptr j=>
   rename_i l
   obtain⟨l', e,q2,q3⟩:=hi.ob _ _ i
   rw[j] at e;simp only[ba] at e;subst e
   obtain⟨q3,c⟩:w.heap[l.cU]? = some (.stringIter s p)∧l.base=0:=q3
   have f:=(y8.1 q3).1
   have q:l.base+0*l.sz+0=0:=by rw[c];simp
   rw[q]
   split at h<;>simp only[ba,lR,reduceCtorEq] at h
   · rename_i h1 h2
     have h1:=gb h1
     have h2:=gb h2
     obtain⟨rfl,rfl⟩:=h
     have h3:hM g [.sc (.bool true),.sc (.int .i64 p),.sc (.int .i32 (Utf8.decode s p).1)] #[.bool true,.int .i64 p,.int .i32 (Utf8.decode s p).1]:=hM.three (.sc rfl) (.sc rfl) (.sc rfl)
     refine⟨_,{ w with heap:=w.heap.setIfInBounds l.cU (.stringIter s (p+(Utf8.decode s p).2)) },?_,.bO h3.1 h3.2,?_⟩
     · simp only[Instr.next,Sem.run_bind,Result.andThen_ok,getObj,Sem.run,q3]
       rw[if_pos (by omega)]
       simp[setObj,Sem.run,q3,goInt]
     · refine hi.jz i h2 j (by simp) ?_ ?_ rfl ⟨rfl,bJ _⟩ rfl ⟨rfl,c⟩
       · show(w.heap.setIfInBounds l.cU _)[l.cU]? = _
         rw[ny,if_pos rfl,if_pos f]
       · intro k u
         show(w.heap.setIfInBounds l.cU _)[k]? = _
         rw[ny,if_neg (Ne.symm u)]
   · rename_i h1
     have h1:¬ p<s.size:=by intro v;rw[EY v] at h1;simp at h1
     obtain⟨rfl,rfl⟩:=h
     refine⟨.tuple #[.bool false],w,?_,.bO (hM.cons (xs:=[]) (g:=g) (a:=.sc (.bool false)) (.sc rfl) (hM.nil g)).1 (hM.cons (xs:=[]) (g:=g) (a:=.sc (.bool false)) (.sc rfl) (hM.nil g)).2,hi,Ext.refl _ _ _⟩
     simp only[Instr.next,Sem.run_bind,Result.andThen_ok,getObj,Sem.run,q3]
     rw[if_neg h1]
     simp
def ae6 (i:Nat):List Nat→Bool
 | []=>false
 | j::r=>match Nat.beq i j with
   | true=>true
   | false=>ae6 i r
def kN (seen:List Nat):List (AV×AV)→Nat→List (Nat×AV×AV)
 | [],_=>[]
 | (k,v)::r,i=>match ae6 i seen with
   | true=>kN seen r (i+1)
   | false=>(i,k,v)::kN seen r (i+1)
def Fl (S:ag)(id m since:Nat)(seen:List Nat):List (Nat×AV×AV)→List (AV×ag)
 | []=>[]
 | (i,k,v)::r=>(.bO [.sc (.bool true),k,v],S.set id (.mi m since (seen++[i])))::Fl S id m since seen r
def Lz (S:ag)(id m since:Nat)(seen:List Nat):List (Nat×AV×AV)→List (AV×ag)
 | []=>[(.bO [.sc (.bool false)],S)]
 | l=>Fl S id m since seen l
def Fm (S:ag)(it:AV):Option (List (AV×ag)):=
 match it with
 | .ptr id 0 0=>match S.get id with
   | some .mz=>some [(.bO [.sc (.bool false)],S)]
   | some (.mi m since seen)=>match S.get m with
     | some (.mp c)=>match Nat.beq since c.length,Nat.ble S.lim id with
       | true,true=>some (Lz S id m since seen (kN seen c 0))
       | _,_=>none
     | _=>none
   | _=>none
 | _=>none
theorem EG {i:Nat}:∀ {l:List Nat},ae6 i l=true↔i∈l:=by
 intro l
 induction l with
 | nil=>simp[ae6]
 | cons j r c=>
   simp only[ae6,cF]
   cases hb:Nat.beq i j with
   | true=>simp_all
   | false=>
     have:i≠j:=by rintro rfl;simp_all
     simp[this,c]
variable {seen : List Nat}
theorem F4 : ∀ {c:List (AV×AV)} {n i:Nat} {k v:AV},(i,k,v)∈kN seen c n↔n≤i∧c[i-n]? = some (k,v)∧i∉seen:=by
 intro c
 induction c with
 | nil=>intro n i k v;simp[kN]
 | cons j r h=>
   obtain⟨a,b⟩:=j
   intro n i k v
   have f:((n+1≤i∧r[i-(n+1)]? = some (k,v)∧i∉seen)∨(i=n∧a=k∧b=v∧n∉seen))↔(n≤i∧((a,b)::r)[i-n]? = some (k,v)∧i∉seen):=by
     constructor
     · rintro(⟨p,q,s⟩ | ⟨rfl,rfl,rfl,s⟩)
       · refine⟨by omega,?_,s⟩
         rw[show i-n=(i-(n+1))+1 from by omega,q8];exact q
       all_goals simp_all
     · rintro⟨p,q,s⟩
       by_cases e:i=n
       · subst e;simp at q;exact .inr ⟨rfl,q.1,q.2,s⟩
       · rw[show i-n=(i-(n+1))+1 from by omega,q8] at q
         exact .inl ⟨by omega,q,s⟩
   rw[←f]
   simp only[kN]
   cases hb:ae6 n seen with
   | true=>
     have hs:=EG.1 hb
     simp only[h]
     constructor
     · exact .inl
     · rintro(q | ⟨_,_,_,s⟩)
       · exact q
       · exact absurd hs s
   | false=>
     have hs:n∉seen:=fun e=>by rw[EG.2 e] at hb;simp at hb
     simp only[cF,lR,h]
     constructor
     · rintro(⟨rfl,rfl,rfl⟩ | q)
       · exact .inr ⟨rfl,rfl,rfl,hs⟩
       · exact .inl q
     · rintro(q | ⟨rfl,rfl,rfl,_⟩)
       · exact .inr q
       · exact .inl ⟨rfl,rfl,rfl⟩
theorem U6 {id m since:Nat}:∀ {l:List (Nat×AV×AV)} {i:Nat} {k v:AV},(i,k,v)∈l→(AV.bO [.sc (.bool true),k,v],S.set id (.mi m since (seen++[i])))∈Fl S id m since seen l:=by
 intro l
 induction l with
 | nil=>intro i k v h;simp at h
 | cons p r c=>
   obtain⟨j,a,b⟩:=p
   intro i k v h
   rcases cF.1 h with e | h
   · simp only[lR] at e
     obtain⟨rfl,rfl,rfl⟩:=e
     exact jq ..
   · exact Ez _ (c h)
theorem Gx (w:World)(e:0<n):∃ c w', (choose (.mapNext n)).run P w=.ok c w' ∧ c<n∧w'.heap=w.heap∧w'.os=w.os∧Lg w' w∧w'.output=w.output:=by
 by_cases h:n≤1
 · exact⟨0,w,by simp[choose,Sem.run,Question.forced,h],e,rfl,rfl,⟨rfl,bJ _⟩,rfl⟩
 · exact⟨w.tape w.drawn (.mapNext n)%n,{ w with drawn:=w.drawn+1 },by simp[choose,Sem.run,Question.forced,h,Question.cut],Nat.mod_lt _ e,rfl,rfl,⟨rfl,xk _⟩,rfl⟩
theorem MB (hi : Inv S g w) {l : List (AV × ag)} (h : Fm S it = some l) (hv : VR g it x) :
   ∃ r S' z w', (r, S') ∈ l ∧ (Instr.next x false t).run P w = .ok z w' ∧ VR g r z ∧ Inv S' g w' ∧ Ext S g w S' g w' := by
 have D : hM g [.sc (.bool false)] #[.bool false] := hM.cons (xs := []) (.sc rfl) (hM.nil g)
 unfold Fm at h
 split at h <;> try (simp at h; done)
 rename_i id
 cases hv with | ptr hl => ?_
 rename_i lo
 split at h <;> try (simp at h; done)
 · rename_i Z
   simp only [ba] at h; subst h
   obtain ⟨l', H, q2, q3⟩ := hi.ob _ _ Z
   rw [hl] at H; simp only [ba] at H; subst H
   obtain ⟨a, b, c, q3, E⟩ := q3
   refine ⟨_, _, .tuple #[.bool false], w, jq .., ?_, .bO D.1 D.2, hi, Ext.refl _ _ _⟩
   rw [show lo.base + 0 * lo.sz + 0 = 0 from by rw [E]; simp]
   simp [Instr.next, getObj, Sem.run, q3]
 · rename_i m since seen Z
   split at h <;> try (simp at h; done)
   rename_i f hgm
   split at h <;> simp only [ba, reduceCtorEq] at h
   rename_i hs u
   have hs := np hs
   have u := gb u
   subst h
   obtain ⟨l', H, q2, q3⟩ := hi.ob _ _ Z
   rw [hl] at H; simp only [ba] at H; subst H
   obtain ⟨lm, m1, m2, E⟩ := q3
   obtain ⟨l', n1, n2, n3⟩ := hi.ob _ _ hgm
   rw [m1] at n1; simp only [ba] at n1; subst n1
   obtain ⟨es, ck, p1, p2, p3, p4, L⟩ := n3
   have hlt := (y8.1 m2).1
   rw [show lo.base + 0 * lo.sz + 0 = 0 from by rw [E]; simp]
   have K : (!seen.toArray.isEmpty && !es.isEmpty && es.all fun e => decide (e.born ≥ since)) = false := by
     rw [sw]
     intro C
     simp only [aY, xn] at C
     obtain ⟨⟨_, c2⟩, c3⟩ := C
     have F : 0 < es.size := by
       rcases Nat.eq_zero_or_pos es.size with e | e
       · simp [Array.isEmpty, e] at c2
       · exact e
     have := (Array.all_eq_true.1 c3) 0 F
     simp only [ge_iff_le, decide_eq_true_eq] at this
     have hb := L 0 es[0] (Ak F)
     omega
   obtain ⟨left, q⟩ : ∃ x, x = es.filter fun e => !seen.toArray.contains e.born := ⟨_, rfl⟩
   have I : ∀ e, e ∈ left → ∃ i, es[i]? = some e ∧ i ∉ seen := by
     intro e p
     rw [q, Array.mem_filter] at p
     obtain ⟨i, hi', he'⟩ := Array.mem_iff_getElem.1 p.1
     have B : es[i]? = some e := by rw [Ak hi', he']
     refine ⟨i, B, fun C => ?_⟩
     have := p.2
     rw [L i e B] at this
     simp [C] at this
   have Q : ∀ i e, es[i]? = some e → i ∉ seen → e ∈ left := by
     intro i e p hn
     rw [q, Array.mem_filter]
     refine ⟨Array.mem_of_getElem? p, ?_⟩
     rw [L i e p]
     simp [hn]
   have R : left.filter (fun e => decide (e.born < since)) = left := by
     rw [Array.filter_eq_self]
     intro e p
     obtain ⟨i, h1, _⟩ := I e p
     have := (y8.1 h1).1
     rw [L i e h1]
     simp only [decide_eq_true_eq]; omega
   have T : left.filter (fun e => decide (e.born ≥ since)) = #[] := by
     rw [Array.filter_eq_empty_iff]
     intro e p
     obtain ⟨i, h1, _⟩ := I e p
     have := (y8.1 h1).1
     rw [L i e h1]
     simp only [decide_eq_true_eq]; omega
   obtain ⟨j, o⟩ : ∃ x, x = (if left.isEmpty then #[none] else #[]) ++ (left ++ #[]).map some := ⟨_, rfl⟩
   have hsz : 0 < j.size := by
     rw [o]
     cases p : left.isEmpty with
     | true => simp; omega
     | false =>
       have : left.size ≠ 0 := by intro e; simp [Array.isEmpty, e] at p
       simp; omega
   obtain ⟨c, w1, r1, r2, r3, r4, r5, r6⟩ := Gx (P := P) w hsz
   have U : (Instr.next (.pointer (some ⟨lo.cU, 0, none⟩)) false t).run P w = (match j[c]? with
       | some (some e) => (do setObj lo.cU (.mapIter (some lm.cU) since (seen.toArray.push e.born) ck); pure (.tuple #[.bool true, e.key, e.val]) : Sem Value)
       | some none => pure (.tuple #[.bool false])
       | none => stuck "Next: no such candidate").run P w1 := by
     simp only [Instr.next, Sem.run_bind, getObj, Sem.run, m2, Result.andThen_ok, p1, K, dL, if_false, ← q, R, T, ← o, r1]
     rfl
   rw [U]
   have M : Inv S g w1 := hi.world r3
   have N : Ext S g w S g w1 := Ext.world r3 r4 r5 r6
   have G : j[c]? = some j[c] := Ak r2
   cases C : j[c] with
   | none =>
     rw [G, C]
     have V : left.isEmpty = true := by
       cases p : left.isEmpty with
       | true => rfl
       | false =>
         exfalso
         rw [p] at o
         have s : (none : Option MapEntry) ∈ j := by rw [← C]; exact Array.getElem_mem _
         rw [o] at s
         simp at s
     have hlk : kN seen f 0 = [] := by
       rw [List.eq_nil_iff_forall_not_mem]
       rintro ⟨i, k, v⟩ s
       obtain ⟨_, a, b⟩ := F4.1 s
       simp only [Nat.sub_zero] at a
       have W : i < es.size := by rw [p2]; exact (lr.1 a).1
       have := Q i es[i] (Ak W) b
       have J : left = #[] := by simpa using V
       rw [J] at this
       simp at this
     refine ⟨.bO [.sc (.bool false)], S, .tuple #[.bool false], w1, ?_, by simp, .bO D.1 D.2, M, N⟩
     rw [hlk]; exact jq ..
   | some e =>
     rw [G, C]
     have s : e ∈ left := by
       have s : some e ∈ j := by rw [← C]; exact Array.getElem_mem _
       rw [o] at s
       cases p : left.isEmpty with
       | true =>
         rw [p] at s
         have J : left = #[] := by simpa using p
         rw [J] at s
         simp at s
       | false => rw [p] at s; simpa using s
     obtain ⟨i, h1, h2⟩ := I e s
     have X : i < f.length := by rw [← p2]; exact (y8.1 h1).1
     have O : f[i]? = some f[i] := qm X
     obtain ⟨v1, v2⟩ := p3 i _ e O h1
     have A : (i, f[i].1, f[i].2) ∈ kN seen f 0 := F4.2 ⟨bU _, by rw [Nat.sub_zero]; exact O, h2⟩
     have Y : lo.cU < w1.heap.size := by rw [r3]; exact hlt
     have h3 : hM g [.sc (.bool true), f[i].1, f[i].2] #[.bool true, e.key, e.val] := hM.three (.sc rfl) v1 v2
     have hb := L i e h1
     obtain ⟨u1, u2⟩ := M.jz (w' := { w1 with heap := w1.heap.setIfInBounds lo.cU (.mapIter (some lm.cU) since (seen.toArray.push e.born) ck) }) (ob' := .mapIter (some lm.cU) since (seen.toArray.push e.born) ck) (o' := .mi m since (seen ++ [i])) Z u hl (by simp)
       (by show (w1.heap.setIfInBounds lo.cU _)[lo.cU]? = _; rw [ny, if_pos rfl, if_pos Y])
       (by intro k hk; show (w1.heap.setIfInBounds lo.cU _)[k]? = _; rw [ny, if_neg (Ne.symm hk)]) rfl ⟨rfl, bJ _⟩ rfl
       ⟨lm, m1, by rw [hb, p4, p2, ← hs]; simp, E⟩
     refine ⟨_, _, .tuple #[.bool true, e.key, e.val], _, ?_, ?_, .bO h3.1 h3.2, u1, N.trans u2⟩
     · have : Lz S id m since seen (kN seen f 0) = Fl S id m since seen (kN seen f 0) := by
         cases hq : kN seen f 0 with
         | nil => rw [hq] at A; simp at A
         | cons a b => rfl
       rw [this]
       exact U6 A
     · simp [setObj, Sem.run, show w1.heap[lo.cU]? = some (Obj.mapIter (some lm.cU) since seen.toArray since) from by rw [r3]; exact m2]
def Ip : List Nat→Option Nat
 | []=>none
 | [i]=>some i
 | _::r=>Ip r
def x7 (S:ag)(it:AV):Option AV:=
 match it with
 | .ptr id 0 0=>match S.get id with
   | some (.mi m since seen)=>match S.get m,Ip seen with
     | some (.mp c),some i=>match Nat.beq since c.length,nth c i with
       | true,some (k,v)=>some (.bO [k,v])
       | _,_=>none
     | _,_=>none
   | _=>none
 | _=>none
theorem OX : ∀ {l:List Nat} {i:Nat},Ip l=some i→l.toArray.back? = some i:=by
 intro l
 induction l with
 | nil=>intro i h;simp[Ip] at h
 | cons a r c=>
   intro i h
   cases r<;>simp_all[Ip,ba,List.back?_toArray,List.getLast?_cons_cons]
theorem Hy (hi:Inv S g w)(h:x7 S it=some r)(E:VR g it x):∃ z,(Instr.entry x).run P w=.ok z w∧VR g r z:=by
 unfold x7 at h
 split at h<;>try (simp at h;done)
 rename_i id
 cases E with | ptr F=>?_
 rename_i lo
 split at h<;>try (simp at h;done)
 rename_i m since seen G
 split at h<;>try (simp at h;done)
 rename_i R i B c
 split at h<;>simp only[ba,reduceCtorEq] at h
 rename_i k v hs s
 have hs:=np hs
 rw[j8] at s
 subst h
 obtain⟨l', u,q2,q3⟩:=hi.ob _ _ G
 rw[F] at u;simp only[ba] at u;subst u
 obtain⟨lm,H,I,C⟩:=q3
 obtain⟨l', A,U,J⟩:=hi.ob _ _ B
 rw[H] at A;simp only[ba] at A;subst A
 obtain⟨es,ck,K,L,M,V,D⟩:=J
 have q:i<es.size:=by rw[L];exact(lr.1 s).1
 have o:=Ak q
 obtain⟨N,O⟩:=M i _ _ s o
 have f:es.find? (fun e=>e.born==i)=some es[i]:=by
  cases hf:es.find? (fun e=>e.born==i) with
  | none=>
    have:=Array.find?_eq_none.1 hf es[i] (Array.getElem_mem _)
    rw[D i _ o] at this;simp at this
  | some e=>
    have h1:=Array.find?_some hf
    have h2:=Array.mem_of_find?_eq_some hf
    obtain⟨j,Q,p⟩:=Array.mem_iff_getElem.1 h2
    have:=D j e (by rw[Ak Q,p])
    have T:e.born=i:=by simpa using h1
    have:j=i:=by omega
    subst this
    rw[p]
 have h2:=hM.two N O
 refine⟨.tuple #[es[i].key,es[i].val],?_,.bO h2.1 h2.2⟩
 rw[show lo.base+0*lo.sz+0=0 from by rw[C];simp]
 simp only[Instr.entry,Sem.run_bind,getObj,Sem.run,I,Result.andThen_ok,OX c,K,f]
 simp_all
def AP (P:Program)(t:TypeId)(x:AV)(ok:Bool):Option AV:=
 match P.underlying t with
 | some (.interface _)=>none
 | some _=>match x,ok with
   | .eB u v,true=>if u=t then some (.bO [v,.sc (.bool true)]) else
     match ja P t with
     | some z=>some (.bO [z,.sc (.bool false)])
     | none=>none
   | .eB u v,false=>if u=t then some v else none
   | .sc .nilIface,true=>match ja P t with
     | some z=>some (.bO [z,.sc (.bool false)])
     | none=>none
   | _,_=>none
 | none=>none
theorem Gy {xt : TypeId} {x : AV} (h : AP P t x ok = some r) (c : VR g x y) : ∃ z, (Instr.typeAssert y xt t ok).run P w = .ok z w ∧ VR g r z := by
 unfold AP at h
 split at h <;> try (simp at h; done)
 rename_i d q hu
 have key : ∀ u v, (Instr.typeAssert (.iface u v) xt t ok).run P w = (if u = t then (pure (if ok then .tuple #[v, .bool true] else v) : Sem Value) else
     (if ok then do pure (.tuple #[← zeroValue t, .bool false]) else runtimePanic (.typeAssertion (some xt) (some u) t ""))).run P w := by
   intro u v
   cases d <;> first | exact (q _ rfl).elim | simp [Instr.typeAssert, ah hu]
 have j : ok = true → (Instr.typeAssert .nilIface xt t ok).run P w = (do pure (.tuple #[← zeroValue t, .bool false]) : Sem Value).run P w := by
   intro p; subst p
   cases d <;> first | exact (q _ rfl).elim | simp [Instr.typeAssert, ah hu]
 split at h <;> try (simp at h; done)
 · rename_i u v
   cases c with
   | eB c =>
     split at h
     · rename_i i
       simp only [ba] at h; subst h; subst i
       exact ⟨_, by rw [key]; simp, VR.two c (.sc rfl)⟩
     · rename_i i
       split at h <;> simp only [ba, reduceCtorEq] at h
       rename_i z o
       subst h
       obtain ⟨s, e, f⟩ := jM (P := P) (w := w) (g := g) o
       exact ⟨_, by rw [key]; simp [i, e], VR.two f (.sc rfl)⟩
 · rename_i u v
   cases c with
   | eB c =>
     split at h <;> simp only [ba, reduceCtorEq] at h
     rename_i i
     subst h; subst i
     exact ⟨_, by rw [key]; simp, c⟩
 · split at h <;> simp only [ba, reduceCtorEq] at h
   rename_i z o
   subst h
   obtain ⟨s, e, f⟩ := jM (P := P) (w := w) (g := g) o
   cases c with | sc _ => exact ⟨_, by rw [j rfl]; simp [e], VR.two f (.sc rfl)⟩
end
end Go.Eng

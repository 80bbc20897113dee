/- The operations on maps and strings, and the meaning of each operation; no conditions. -/
import Derived.Test.YthplmmeobggkfaaGreatVEngA
import Derived.Orders
set_option linter.all false
namespace Go.Eng
noncomputable section
inductive dg where
 | val (v : AV) (S : ag)
 | skip (S : ag)
 | call (f : FuncId) (args : List AV)
 | sj (id : Nat) (args : List AV)
 | rW (f : FuncId) (cap args : List AV)
 | ae7
 | wh (v : AV)
def rA (ρ:Operand→Option AV):List Operand→Option (List AV)
 | []=>some []
 | x::r=>match ρ x with
   | some v=>match rA ρ r with
     | some l=>some (v::l)
     | none=>none
   | none=>none
def xd (ρ:Operand→Option AV):List (Nat×Operand)→Option (List (Nat×AV))
 | []=>some []
 | (i,x)::r=>match ρ x with
   | some v=>match xd ρ r with
     | some l=>some ((i,v)::l)
     | none=>none
   | none=>none
def Ld (g:Gh)(ρ:Operand→Option AV)(ρ' : Operand→Value):Prop:=∀ x v,ρ x=some v→VR g v (ρ' x)
variable {g : Gh} {ρ : Operand → Option AV} {ρ' : Operand → Value}
theorem tQ (h:Ld g ρ ρ'):∀ {l:List Operand} {b:List AV},rA ρ l=some b→hM g b (l.map ρ').toArray:=by
 intro l
 induction l with
 | nil=>simp_all[rA,hM.nil]
 | cons x r d=>
   intro b e
   simp only[rA] at e
   split at e<;>try (simp at e;done)
   rename_i v i
   split at e<;>simp only[ba,reduceCtorEq] at e
   rename_i l' j
   subst e
   exact hM.cons (h x v i) (d j)
theorem Dl (h:Ld g ρ ρ'):∀ {l:List (Nat×Operand)} {b:List (Nat×AV)},xd ρ l=some b→xi g b (l.map fun p=>(p.1,ρ' p.2)):=by
 intro l
 induction l with
 | nil=>intro b e;simp only[xd,ba] at e;subst e;exact .nil
 | cons p r d=>
   obtain⟨i,x⟩:=p
   intro b e
   simp only[xd] at e
   split at e<;>try (simp at e;done)
   rename_i v j
   split at e<;>simp only[ba,reduceCtorEq] at e
   rename_i l' k
   subst e
   exact .cons (h x v j) (d k)
def nz (P : Program) (f : FuncId) : Bool :=
 match P.funcs[f]? with
 | some fn => match fn.body with
   | some _ => !(fn.name == "runtime.NumGoroutine")
   | none => false
 | none => false
variable {P : Program} {w : World} {f : FuncId} {xs : Array Value}
theorem mW (h:nz P f=true):(callFunc f xs).run P w=.ok (.enter f xs) w:=by
 unfold nz at h
 split at h<;>try (simp at h;done)
 rename_i fn hf
 split at h<;>try (simp at h;done)
 simp_all[callFunc]
def vC (P:Program)(t:TypeId)(name:String):Option FuncId:=
 match P.info? t with
 | some i=>match i.methods.find? (·.name==name) with
   | some m=>match m.path.toList,m.func,P.underlying t with
     | [],some (f,true),some (.pointer _)=>some f
     | [],some (_,false),some (.pointer _)=>none
     | [],some (f,false),some _=>some f
     | _,_,_=>none
   | none=>none
 | none=>none
variable {t : TypeId} {name : String} {n : Nat}
theorem F5 {v:Value}(h:vC P t name=some f):(method (n+1) t v name).run P w=.ok (f,v) w:=by
 unfold vC at h
 split at h<;>try (simp at h;done)
 rename_i i hi
 split at h<;>try (simp at h;done)
 rename_i m k
 have j:∀ {l:List FieldStep},m.path.toList=l→m.path=l.toArray:=fun e=>by rw[←e]
 split at h<;>simp only[ba,reduceCtorEq] at h
 · simp_all[method,cY,follow,receiverAt,ah,Place.get]
 · rename_i a d b p hf hu
   subst h
   simp only[method,Sem.run_bind,cY hi,Result.andThen_ok,k,p,follow,Sem.run_pure,hf,receiverAt,ah hu]
   cases d<;>first | exact(b _ rfl).elim | simp[Place.get]
variable {ty : TypeId} {ts : List TypeId} {a : Option Addr} {c c' : Nat}
theorem Yd : Builtin.len_ (t::ts).toArray ty #[.slice a n c]=Builtin.len_ (t::ts).toArray ty #[.slice a n c']:=by
 unfold Builtin.len_
 simp only[q9,ur]
 congr 1
 funext u
 cases u<;>rfl
theorem RK {b:Value}:Instr.indexAt t (.slice a n c) b=Instr.indexAt t (.slice a n c') b:=by
 unfold Instr.indexAt
 congr 1
 funext p
 obtain⟨k,i⟩:=p
 dsimp only
 congr 1
 funext u
 cases u<;>rfl
variable {S : ag} {y : Value}
theorem Kf (hi:Inv S g w){x:AV}(h:C3 P S t x.q6=some n)(b:VR g x y) :
  (Builtin.len_ (t::ts).toArray ty #[y]).run P w=.ok (.int .i64 n) w:=by
 rcases b.q6 with k | ⟨a,m,c,rfl,k⟩
 · exact Dk hi h k
 · rw[Yd (c' := c)];exact Dk hi h k
variable {x : Value}
theorem Ct (hi:Inv S g w){a d r:AV}(h:dQ P S t a.q6 d=some r)(ha:VR g a x)(hx:VR g d y) :
  ∃ z,(Instr.indexAt t x y).run P w=.ok z w∧VR g r z:=by
 rcases ha.q6 with k | ⟨b,m,c,rfl,k⟩
 · exact tZ hi h k hx
 · rw[RK (c' := c)];exact tZ hi h k hx
def LA (P:Program):List FieldStep→TypeId→AV→Option (TypeId×AV)
 | [],t,a=>some (t,a)
 | s::r,_,a=>match s.deref,P.underlying s.struct with
   | false,some (.struct fs)=>match nth fs.toList s.index,a with
     | some d,.agg cs=>match Fy P d.type cs d.offset with
       | some b=>LA P r d.type b
       | none=>none
     | _,_=>none
   | _,_=>none
theorem Ye : ∀ {l:List FieldStep} {t:TypeId} {a b:AV} {xt:TypeId} {x:Value},LA P l t a=some (xt,b)→VR g a x→∃ y,(follow l t (.val x)).run P w=.ok (xt,.val y) w∧VR g b y:=by
 intro l
 induction l with
 | nil=>
   intro t a b xt x h i
   simp only[LA,ba,lR] at h
   obtain⟨rfl,rfl⟩:=h
   exact⟨x,rfl,i⟩
 | cons s r k=>
   intro t a b xt x h i
   simp only[LA] at h
   split at h<;>try (simp at h;done)
   rename_i fs u hu
   split at h<;>try (simp at h;done)
   rename_i d cs j
   split at h<;>try (simp at h;done)
   rename_i v hb
   rw[j8] at j
   have q:fs[s.index]? = some d:=by simpa using j
   cases i with
   | agg m hh=>
     obtain⟨z,e,p⟩:=vX (P:=P) (w:=w) hb ⟨m,hh⟩
     obtain⟨y,A,hy⟩:=k h p
     simp_all[follow,ah]
def Uu (P:Program)(t:TypeId)(name:String)(v:AV):Option (FuncId×AV):=
 match P.info? t with
 | some i=>match i.methods.find? (·.name==name) with
   | some m=>match m.func,LA P m.path.toList t v with
     | some (f,false),some (xt,b)=>match P.underlying xt with
       | some (.pointer _)=>none
       | some _=>some (f,b)
       | none=>none
     | _,_=>none
   | none=>none
 | none=>none
def Jx (P:Program)(t:TypeId)(name:String)(v:AV):Option (FuncId×AV):=
 match vC P t name with
 | some f=>some (f,v)
 | none=>Uu P t name v
theorem U7 {a b:AV}(h:Jx P t name a=some (f,b))(k:VR g a x):∃ y,(method (n+1) t x name).run P w=.ok (f,y) w∧VR g b y:=by
 unfold Jx at h
 split at h
 · rename_i l j
   simp only[ba,lR] at h
   obtain⟨rfl,rfl⟩:=h
   exact⟨x,F5 j,k⟩
 · unfold Uu at h
   split at h<;>try (simp at h;done)
   rename_i i hi
   split at h<;>try (simp at h;done)
   rename_i m j
   split at h<;>try (simp at h;done)
   rename_i l xt r hf p
   obtain⟨y,e,hy⟩:=Ye (w:=w) p k
   split at h<;>simp only[ba,lR,reduceCtorEq] at h
   rename_i d q hu
   obtain⟨rfl,rfl⟩:=h
   refine⟨y,?_,hy⟩
   simp only[method,Sem.run_bind,cY hi,Result.andThen_ok,j,e,hf,receiverAt,ah hu]
   cases d<;>first | omega | simp[Place.get]
theorem Kg {v:Value}(h:vC P t name=some f):(nilAhead (n+1) t v name).run P w=.ok (some false) w:=by
 unfold vC at h
 split at h<;>try (simp at h;done)
 rename_i i hi
 split at h<;>try (simp at h;done)
 rename_i m b
 split at h<;>simp only[ba,reduceCtorEq] at h
 · simp_all[nilAhead,cY,followBlind]
 · rename_i a d j e hf hu
   simp only[nilAhead,Sem.run_bind,cY hi,Result.andThen_ok,b,e,followBlind,Sem.run_pure,hf,ah hu]
   simp_all
def Jy (P:Program)(y:AV)(args:List AV):Option (Nat×List AV):=
 match y with
 | .fn (.method name) (.eB t v::first) _=>match vC P t name with
   | some g=>match nz P g with
     | true=>some (g,v::(first++args))
     | false=>none
   | none=>none
 | _=>none
def Qh (P:Program)(y:AV):Bool:=
 match y with
 | .fn (.method name) (.eB t _::_) _=>(vC P t name).isSome
 | _=>false
variable {args : List AV}
theorem Dm {y:AV}{l:List AV}{g:Nat}(h:Jy P y args=some (g,l)):∃ name t v first cap,y=.fn (.method name) (.eB t v::first) cap∧vC P t name=some g∧nz P g=true∧l=v::(first++args):=by
 unfold Jy at h
 split at h<;>try (simp at h;done)
 split at h<;>try (simp at h;done)
 rename_i b
 split at h<;>simp only[ba,lR,reduceCtorEq] at h
 rename_i hb
 obtain⟨rfl,rfl⟩:=h
 exact⟨_,_,_,_,_,rfl,b,hb,rfl⟩
theorem OY {y:AV}(h:Qh P y=true):∃ name t v first cap g,y=.fn (.method name) (.eB t v::first) cap∧vC P t name=some g:=by
 unfold Qh at h
 split at h<;>try (simp at h;done)
 obtain⟨g,b⟩:=Option.isSome_iff_exists.1 h
 exact⟨_,_,_,_,_,g,rfl,b⟩
def lu (P:Program)(S:ag)(b:Builtin)(ts:List TypeId)(args:List AV):Option dg:=
 match b,args with
 | .append,[s,x]=>match qL P S ts s x with
   | some (v,e)=>some (.val v e)
   | none=>match JO P S ts s x with
     | some (v,e)=>some (.val v e)
     | none=>none
 | .len,[x]=>match ts with
   | t::_=>match C3 P S t x.q6 with
     | some n=>some (.val (.sc (.int .i64 n)) S)
     | none=>none
   | []=>none
 | .cap,[x]=>match ts with
   | t::_=>match T1 P t x with
     | some n=>some (.val (.sc (.int .i64 n)) S)
     | none=>none
   | []=>none
 | .copy,[d,x]=>match Oi P S ts d x with
   | some (n,e)=>some (.val (.sc (.int .i64 n)) e)
   | none=>none
 | .max,_=>match Io true args with
   | some v=>some (.val v S)
   | none=>none
 | .min,_=>match Io false args with
   | some v=>some (.val v S)
   | none=>none
 | .panic,[.eB t v]=>some (.wh (.eB t v))
 | .clear,[x]=>match JP P S ts x with
   | some e=>some (.val (.bO []) e)
   | none=>none
 | .recover,[]=>some .ae7
 | _,_=>none
def xo (P:Program)(ρ:Operand→Option AV)(S:ag)(c:Call):Option dg:=
 match rA ρ c.args.toList with
 | some args=>match c.callee with
   | .builtin b=>lu P S b c.argTypes.toList args
   | .invoke r name=>match ρ r with
     | some (.eB t v)=>match Jx P t name v with
       | some (f,b)=>match nz P f with
         | true=>some (.call f (b::args))
         | false=>none
       | none=>none
     | _=>none
   | .value f=>match ρ f with
     | some (.fn (.func g) first cap)=>match nz P g with
       | true=>some (.call g (first++args++cap))
       | false=>none
     | some (.sj id)=>some (.sj id args)
     | some y=>match Jy P y args with
       | some (g,l)=>some (.call g l)
       | none=>none
     | none=>none
 | none=>none
def mP (S:ag):Option AV→Option dg
 | some v=>some (.val v S)
 | none=>none
def DK : Option (AV×ag)→Option dg
 | some (v,S)=>some (.val v S)
 | none=>none
def NT : Option ag→Option dg
 | some S=>some (.skip S)
 | none=>none
def uS : Operand→Bool
 | .const _=>true
 | _=>false
def gJ (P:Program)(ρ:Operand→Option AV)(S:ag)(o:Op):Option dg:=
 match o with
 | .move x=>mP S (ρ x)
 | .assign x=>mP S (ρ x)
 | .pick c a b=>match ρ c with
   | some (.sc (.bool true))=>mP S (ρ a)
   | some (.sc (.bool false))=>mP S (ρ b)
   | _=>none
 | .alloc t=>match ja P t with
   | some z=>DK (Im S z)
   | none=>none
 | .box _ x=>match ρ x with
   | some v=>DK (Im S v)
   | none=>none
 | .build t q=>match xd ρ q.toList with
   | some l=>mP S (EF P t l)
   | none=>none
 | .buildSlice t n q=>match xd ρ q.toList with
   | some l=>DK (oz P S t n l)
   | none=>none
 | .load t a=>match ρ a with
   | some p=>match ld S p with
     | some cs=>mP S (um P t cs)
     | none=>none
   | none=>none
 | .store t a x=>match ρ a,ρ x with
   | some p,some v=>NT (x5 P S t p v)
   | _,_=>none
 | .nilCheck x=>match ρ x with
   | some (.ptr id i j)=>some (.val (.ptr id i j) S)
   | some (.dO cs)=>some (.val (.dO cs) S)
   | some (.fn (.func f) a b)=>some (.val (.fn (.func f) a b) S)
   | some (.sj id)=>some (.val (.sj id) S)
   | some (.eB t v)=>some (.val (.eB t v) S)
   | some y=>match Qh P y with
     | true=>some (.val y S)
     | false=>none
   | none=>none
 | .binOp op t x y _=>match ρ x,ρ y with
   | some (.sc .nilIface),some (.sc .nilIface)=>match P.underlying t with
     | some (.interface _)=>match uS x||uS y with
       | true=>mP S (n8 op true)
       | false=>none
     | _=>none
   | some a,some b=>mP S (uP P op t a b)
   | _,_=>none
 | .unOp op _ x=>match ρ x with
   | some a=>mP S (Tj op a)
   | none=>none
 | .convert s d x=>match ρ x with
   | some a=>mP S (Fx P s d a)
   | none=>none
 | .makeInterface t x=>match P.underlying t,ρ x with
   | some (.interface _),_=>none
   | some _,some v=>some (.val (.eB t v) S)
   | _,_=>none
 | .makeFunc f a b=>match rA ρ a.toList,rA ρ b.toList with
   | some x,some y=>some (.val (.fn f x y) S)
   | _,_=>none
 | .makeMap _ none=>DK (ym S)
 | .makeSlice t l c=>match ρ l,ρ c with
   | some x,some y=>DK (nT P S t x y)
   | _,_=>none
 | .slice t x lo hi none=>match ρ x,(match lo with
     | none=>some none
     | some a=>match ρ a with
       | some v=>some (some v)
       | none=>none),(match hi with
     | none=>some none
     | some a=>match ρ a with
       | some v=>some (some v)
       | none=>none) with
   | some a,some l,some h=>mP S (vH P S t a l h)
   | _,_,_=>none
 | .slice t x none (some hi) (some r)=>match ρ x,ρ hi,ρ r with
   | some a,some h,some m=>mP S (Jw P t a h m)
   | _,_,_=>none
 | .slice t x (some lo) (some hi) (some r)=>match ρ x,ρ lo,ρ hi,ρ r with
   | some a,some l,some h,some m=>mP S (Qg P t a l h m)
   | _,_,_,_=>none
 | .fieldAddr s x f=>match ρ x with
   | some a=>mP S (tP P s a f)
   | none=>none
 | .field t x f=>match ρ x with
   | some a=>mP S (ED P t a f)
   | none=>none
 | .indexAddr t x e=>match ρ x,ρ e with
   | some a,some b=>mP S (dQ P S t a.q6 b)
   | _,_=>none
 | .index t x e=>match ρ x,ρ e with
   | some a,some b=>mP S (og P t a b)
   | _,_=>none
 | .lookup t x e ok=>match ρ x,ρ e with
   | some a,some b=>mP S (s9 P S t a b ok)
   | _,_=>none
 | .mapUpdate t m k x=>match ρ m,ρ k,ρ x with
   | some a,some b,some c=>NT (oq P S t a b c)
   | _,_,_=>none
 | .insert t m k x=>match ρ m,ρ k,ρ x with
   | some a,some b,some c=>NT (oq P S t a b c)
   | _,_,_=>none
 | .range t x=>match ρ x with
   | some a=>DK (x6 P S t a)
   | none=>none
 | .next u s=>match ρ u with
   | some a=>DK (zA S a s)
   | none=>none
 | .entry u=>match ρ u with
   | some a=>mP S (x7 S a)
   | none=>none
 | .typeAssert x _ t ok=>match ρ x with
   | some a=>mP S (AP P t a ok)
   | none=>none
 | .extract t e=>match ρ t with
   | some (.bO A)=>mP S (nth A e)
   | _=>none
 | .call c=>xo P ρ S c
 | .defer c=>match rA ρ c.args.toList with
   | some args=>match c.callee with
     | .value f=>match ρ f with
       | some (.fn (.func g) first cap)=>match nz P g with
         | true=>some (.rW g cap (first++args))
         | false=>none
       | _=>none
     | _=>none
   | none=>none
 | .panic x=>match ρ x with
   | some (.eB t v)=>some (.wh (.eB t v))
   | _=>none
 | _=>none
def kL (P:Program)(ρ' : Operand→Value)(S:ag)(g:Gh)(w:World)(o:Oper):dg→Prop
 | .val v b=>∃ x w' g', (execOp ρ' o).run P w=.ok (.value x) w' ∧ VR g' v x∧Inv b g' w' ∧ Ext S g w b g' w'
 | .skip b=>∃ w' g', (execOp ρ' o).run P w=.ok .skip w' ∧ Inv b g' w' ∧ Ext S g w b g' w'
 | .call f args=>∃ xs,(execOp ρ' o).run P w=.ok (.enter f xs) w∧hM g args xs
 | .sj id args=>∃ l xs,g.ph id=some l∧(execOp ρ' o).run P w=(Instr.yield l.cU xs).run P w∧hM g args xs
 | .rW f cap args=>∃ ys xs,(execOp ρ' o).run P w=.ok (.defer { target:=.fn (.func f) ys,args:=xs }) w∧hM g cap ys∧hM g args xs∧nz P f=true
 | .ae7=>(execOp ρ' o).run P w=.ok .recover w
 | .wh v=>∃ x,(execOp ρ' o).run P w=.halt (.panic x) w∧VR g v x
section
variable {P : Program} {ρ' : Operand → Value} {S : ag} {g : Gh} {w : World} {o : Oper}
theorem kL.v {r:Option AV}{res:dg}(hi:Inv S g w)(h:mP S r=some res)(hx:∀ v,r=some v→∃ x,(execOp ρ' o).run P w=.ok (.value x) w∧VR g v x):kL P ρ' S g w o res:=by
 cases r with
 | none=>simp[mP] at h
 | some v=>
   simp only[mP,ba] at h;subst h
   obtain⟨x,e,b⟩:=hx v rfl
   exact⟨x,w,g,e,b,hi,Ext.refl _ _ _⟩
theorem kL.p {r:Option (AV×ag)}{res:dg}(h:DK r=some res)(hx:∀ v b,r=some (v,b)→∃ x w' g', (execOp ρ' o).run P w=.ok (.value x) w' ∧ VR g' v x∧Inv b g' w' ∧ Ext S g w b g' w'):kL P ρ' S g w o res:=by
 cases r with
 | none=>simp[DK] at h
 | some p=>
   obtain⟨v,b⟩:=p
   simp only[DK,ba] at h;subst h
   exact hx v b rfl
variable {res : dg}
theorem kL.s {r:Option ag}(h:NT r=some res)(hx:∀ b,r=some b→∃ w' g', (execOp ρ' o).run P w=.ok .skip w' ∧ Inv b g' w' ∧ Ext S g w b g' w'):kL P ρ' S g w o res:=by
 cases r with
 | none=>simp[NT] at h
 | some b=>
   simp only[NT,ba] at h;subst h
   exact hx b rfl
end
variable {res : dg}
theorem D0 (hi:Inv S g w){b:Builtin}{cs:Array Bool}{o:Oper}(h:lu P S b ts args=some res)(p:hM g args xs)(m:∀ w', (execOp ρ' o).run P w' = (builtin b ts.toArray ty cs xs).run P w'):kL P ρ' S g w o res:=by
 have two:∀ {a b:AV},args=[a,b]→∃ x y,xs = #[x,y]∧VR g a x∧VR g b y:=by
   intro a b e
   subst e
   obtain⟨x,u,h1⟩:=p.get (k:=0) rfl
   obtain⟨y,C,h2⟩:=p.get (k:=1) rfl
   refine⟨x,y,?_,h1,h2⟩
   apply Array.ext'
   apply zz;intro k
   match k with
   | 0=>simpa using u
   | 1=>simpa using C
   | k+2=>rw[uv (by have:=p.1;simp at this ⊢;omega)];simp
 have one:∀ {a:AV},args=[a]→∃ x,xs = #[x]∧VR g a x:=by
   intro a e
   subst e
   obtain⟨x,u,h1⟩:=p.get (k:=0) rfl
   refine⟨x,?_,h1⟩
   apply Array.ext'
   apply zz;intro k
   match k with
   | 0=>simpa using u
   | k+1=>rw[uv (by have:=p.1;simp at this ⊢;omega)];simp
 unfold lu at h
 split at h<;>try (simp at h;done)
 · rename_i s x
   obtain⟨sv,r,rfl,h1,h2⟩:=two rfl
   split at h
   · rename_i v A i
     simp only[ba] at h
     subst h
     obtain⟨z,w', g', j,l,q,B⟩:=Gv (P:=P) (t:=ty) hi i h1 h2
     exact⟨z,w', g', by rw[m];simp[builtin,j],l,q,B⟩
   · split at h<;>simp only[ba,reduceCtorEq] at h
     rename_i v A i
     subst h
     obtain⟨z,w', g', j,l,q,B⟩:=Ht (P:=P) (t:=ty) hi i h1 h2
     exact⟨z,w', g', by rw[m];simp[builtin,j],l,q,B⟩
 · rename_i x
   obtain⟨r,rfl,h1⟩:=one rfl
   split at h<;>try (simp at h;done)
   rename_i t ts
   split at h<;>simp only[ba,reduceCtorEq] at h
   rename_i n i
   subst h
   exact⟨_,w,g,by rw[m];simp[builtin,Kf (P:=P) (ty:=ty) (ts:=ts) hi i h1],.sc rfl,hi,Ext.refl _ _ _⟩
 · rename_i x
   obtain⟨r,rfl,h1⟩:=one rfl
   split at h<;>try (simp at h;done)
   rename_i t ts
   split at h<;>simp only[ba,reduceCtorEq] at h
   rename_i n i
   subst h
   exact⟨_,w,g,by rw[m];simp[builtin,My (P:=P) (w:=w) (ty:=ty) (ts:=ts) i h1],.sc rfl,hi,Ext.refl _ _ _⟩
 · rename_i d x
   obtain⟨D,r,rfl,h1,h2⟩:=two rfl
   split at h<;>simp only[ba,reduceCtorEq] at h
   rename_i n A i
   subst h
   obtain⟨w', j,l,q⟩:=Kd (P:=P) (t:=ty) hi i h1 h2
   exact⟨_,w', g,by rw[m];simp[builtin,j],.sc rfl,l,q⟩
 · split at h<;>simp only[ba,reduceCtorEq] at h
   rename_i v i
   subst h
   obtain⟨z,j,l⟩:=Mz (P:=P) (w:=w) (ts:=ts.toArray) (t:=ty) i p
   exact⟨z,w,g,by rw[m];simp[builtin,j],l,hi,Ext.refl _ _ _⟩
 · split at h<;>simp only[ba,reduceCtorEq] at h
   rename_i v i
   subst h
   obtain⟨z,j,l⟩:=MA (P:=P) (w:=w) (ts:=ts.toArray) (t:=ty) i p
   exact⟨z,w,g,by rw[m];simp[builtin,j],l,hi,Ext.refl _ _ _⟩
 · rename_i t v
   obtain⟨r,rfl,h1⟩:=one rfl
   simp only[ba] at h;subst h
   cases h1 with
   | eB h1=>exact⟨_,by rw[m];simp[builtin,Instr.panic],.eB h1⟩
 · rename_i x
   obtain⟨r,rfl,h1⟩:=one rfl
   split at h<;>simp only[ba,reduceCtorEq] at h
   rename_i A i
   subst h
   obtain⟨w', j,l,q⟩:=Hv (P:=P) (ty:=ty) hi i h1
   exact⟨.tuple #[],w', g,by rw[m];simp[builtin,j],.bO (xs := #[]) rfl (fun k a x e=>by simp at e),l,q⟩
 · simp only[ba] at h;subst h
   show(execOp ρ' o).run P w=_
   rw[m];simp[builtin]
end
noncomputable section
theorem kd {P:Program}{ρ:Operand→Option AV}{j:Operand→Value}{S:ag}{g:Gh}{w:World}{o:Oper}{Z:dg}(hi:Inv S g w)(i:Ld g ρ j)(h:gJ P ρ S o.op=some Z):kL P j S g w o Z:=by
 obtain⟨dst,op,ty,pos,after,guard⟩:=o
 simp only at h
 cases op with
 | move x=>exact kL.v hi h fun v e=>⟨j x,by simp[execOp],i x v e⟩
 | assign x=>exact kL.v hi h fun v e=>⟨j x,by simp[execOp],i x v e⟩
 | pick c a b=>
   simp only[gJ] at h
   split at h<;>try (simp at h;done)
   · rename_i D
     have K:=i c _ D
     generalize hx:j c=xc at K
     cases K with | sc _=>exact kL.v hi h fun v e=>⟨j a,by simp[execOp,hx,asBool],i a v e⟩
   · rename_i D
     have K:=i c _ D
     generalize hx:j c=xc at K
     cases K with | sc _=>exact kL.v hi h fun v e=>⟨j b,by simp[execOp,hx,asBool],i b v e⟩
 | alloc t=>
   simp only[gJ] at h
   split at h<;>try (simp at h;done)
   rename_i z hz
   obtain⟨zc,hzr,hzv⟩:=jM (P:=P) (w:=w) (g:=g) hz
   refine kL.p h fun v N e=>?_
   obtain⟨a,w', g', u,A,E,H⟩:=Di (P:=P) (t:=t) hi e hzv
   exact⟨_,w', g', by simp[execOp,Instr.alloc,hzr,u],A,E,H⟩
 | box t x=>
   simp only[gJ] at h
   split at h<;>try (simp at h;done)
   rename_i v0 hx
   refine kL.p h fun v N e=>?_
   obtain⟨a,w', g', u,A,E,H⟩:=Di (P:=P) (t:=t) hi e (i x v0 hx)
   exact⟨_,w', g', by simp[execOp,Instr.box,u],A,E,H⟩
 | build t ps=>
   simp only[gJ] at h
   split at h<;>try (simp at h;done)
   rename_i l I
   refine kL.v hi h fun v e=>?_
   obtain⟨z,u,A⟩:=Hs (P:=P) (w:=w) (g:=g) (xs:=ps.map fun p=>(p.1,j p.2)) e (by simpa using Dl i I)
   exact⟨z,by simp only[execOp,Sem.run_bind];rw[u];simp,A⟩
 | buildSlice t n ps=>
   simp only[gJ] at h
   split at h<;>try (simp at h;done)
   rename_i l I
   refine kL.p h fun v N e=>?_
   obtain⟨z,w', g', u,A,E,H⟩:=zV (P:=P) hi (xs:=ps.map fun p=>(p.1,j p.2)) e (by simpa using Dl i I)
   exact⟨z,w', g', by simp only[execOp,Sem.run_bind];rw[u];simp,A,E,H⟩
 | load t a=>
   simp only[gJ] at h
   split at h<;>try (simp at h;done)
   rename_i p hp
   split at h<;>try (simp at h;done)
   rename_i cs hcs
   refine kL.v hi h fun v e=>?_
   obtain⟨y,u,A⟩:=Bc (P:=P) hi hcs e (i a p hp)
   exact⟨y,by simp[execOp,u],A⟩
 | store t a x=>
   simp only[gJ] at h
   split at h<;>try (simp at h;done)
   rename_i p v hp C
   refine kL.s h fun N e=>?_
   obtain⟨w', u,A,E⟩:=Hn (P:=P) hi e (i a p hp) (i x v C)
   exact⟨w', g,by simp[execOp,u],A,E⟩
 | nilCheck x=>
   simp only[gJ] at h
   split at h
   case h_7=>simp at h
   case h_6 y _ _ _ _ _ hx=>
     split at h<;>simp only[ba,reduceCtorEq] at h
     rename_i hb
     subst h
     have C:=i x _ hx
     refine⟨j x,w,g,?_,C,hi,Ext.refl _ _ _⟩
     obtain⟨Q,t,v,first,cap,gf,rfl,W⟩:=OY hb
     generalize hy:j x=y at C
     cases C with
     | fn O q2 q3 q4=>
       rename_i xs ys
       have G:0<xs.size:=by rw[←O];simp
       have J:xs[0]? = some xs[0]:=Ak G
       have L:=q3 0 (.eB t v) _ rfl J
       generalize hz:xs[0]=z at L J
       cases L with
       | eB _=>
         have X:P.types.size+Made.depth=(P.types.size+(Made.depth-1))+1:=by
           have:1≤Made.depth:=by decide
           omega
         simp only[execOp,hy,J,Sem.run_bind,run_program,Result.andThen_ok,X,Kg W]
         rfl
   all_goals
     simp only[ba] at h
     rename_i hx
     subst h
     have C:=i x _ hx
     refine⟨j x,w,g,?_,C,hi,Ext.refl _ _ _⟩
     generalize hy:j x=y at C
     cases C<;>simp[execOp,hy]
 | binOp op t x y yt=>
   simp only[gJ] at h
   split at h<;>try (simp at h;done)
   · rename_i hx hy
     split at h<;>try (simp at h;done)
     rename_i ms hu
     split at h<;>try (simp at h;done)
     rename_i D
     have hx' := i x _ hx
     have hy' := i y _ hy
     refine kL.v hi h fun v e=>?_
     have hgd:(eqGuard op t x y .nilIface .nilIface).run P w=.ok () w:=by
       simp only[xl] at D
       rcases D with D | D
       · cases x<;>first | (simp[uS] at D;done) | (unfold eqGuard;split<;>simp)
       · cases y<;>first | (simp[uS] at D;done) | (unfold eqGuard;split<;>simp)
     generalize hxv:j x=xv at hx'
     generalize hyv:j y=yv at hy'
     cases hx' with | sc _=>?_
     cases hy' with | sc _=>?_
     have hq:(Op.equal t .nilIface .nilIface).run P w=.ok true w:=by
       have:∀ d,(Op.equalIn (d+1) t .nilIface .nilIface).run P w=.ok true w:=fun d=>by simp[Op.equalIn,ah hu]
       exact this 9999
     obtain⟨z,p,q⟩:=gw (P:=P) (w:=w) (g:=g) e hq (by simp[binOp]) (by simp[binOp])
     exact⟨z,by simp only[execOp,Sem.run_bind,hxv,hyv,hgd,Result.andThen_ok,p,Sem.run_pure],q⟩
   · rename_i a b _ hx hy
     refine kL.v hi h fun v e=>?_
     obtain⟨z,u,A,E⟩:=Mu (P:=P) (w:=w) (ox:=x) (oy:=y) e (i x a hx) (i y b hy)
     exact⟨z,by simp only[execOp,Sem.run_bind,u,A,Result.andThen_ok,Sem.run_pure],E⟩
 | unOp op t x=>
   simp only[gJ] at h
   split at h<;>try (simp at h;done)
   rename_i a hx
   refine kL.v hi h fun v e=>?_
   obtain⟨z,u,A⟩:=OV (P:=P) (w:=w) e (i x a hx)
   exact⟨z,by simp[execOp,u],A⟩
 | convert s d x=>
   simp only[gJ] at h
   split at h<;>try (simp at h;done)
   rename_i a hx
   refine kL.v hi h fun v e=>?_
   obtain⟨z,u,A⟩:=Kb (P:=P) (w:=w) e (i x a hx)
   exact⟨z,by simp[execOp,u],A⟩
 | makeInterface t x=>
   simp only[gJ] at h
   split at h<;>simp only[ba,reduceCtorEq] at h
   rename_i d v hne hu hx
   subst h
   refine⟨.iface t (j x),w,g,?_,.eB (i x v hx),hi,Ext.refl _ _ _⟩
   simp only[execOp,Instr.makeInterface,Sem.run_bind,ah hu,Result.andThen_ok]
   cases d<;>first | exact(hne _ rfl).elim | simp
 | makeFunc f a b=>
   simp only[gJ] at h
   split at h<;>simp only[ba,reduceCtorEq] at h
   rename_i x y hx hy
   subst h
   have h1:=tQ i hx
   have h2:=tQ i hy
   have M:(a.toList.map j).toArray=a.map j:=by apply Array.ext';simp
   have U:(b.toList.map j).toArray=b.map j:=by apply Array.ext';simp
   rw[M] at h1;rw[U] at h2
   exact⟨.func f (a.map j) (b.map j),w,g,by simp[execOp,Instr.makeFunc],.fn h1.1 h2.1 h1.2 h2.2,hi,Ext.refl _ _ _⟩
 | makeMap t r=>
   cases r with
   | some r=>simp[gJ] at h
   | none=>
     refine kL.p h fun v N e=>?_
     obtain⟨z,w', g', u,A,E,H⟩:=DZ (P:=P) (t:=t) hi e
     exact⟨z,w', g', by simp[execOp,u],A,E,H⟩
 | makeSlice t l c=>
   simp only[gJ] at h
   split at h<;>try (simp at h;done)
   rename_i x y hx hy
   refine kL.p h fun v N e=>?_
   obtain⟨z,w', g', u,A,E,H⟩:=Bz (P:=P) hi e (i l x hx) (i c y hy)
   exact⟨z,w', g', by simp[execOp,u],A,E,H⟩
 | slice t x lo R mx=>
   cases mx with
   | some m=>
     cases lo with
     | some lo2=>
       cases R with
       | none=>simp[gJ] at h
       | some T=>
         simp only[gJ] at h
         split at h<;>try (simp at h;done)
         rename_i a b c d hx hb D hd
         refine kL.v hi h fun v e=>?_
         obtain⟨z,u,A⟩:=Mw (P:=P) (w:=w) e (i x a hx) (i lo2 b hb) (i T c D) (i m d hd)
         exact⟨z,by simp only[execOp,Sem.run_bind,j9];rw[u];simp,A⟩
     | none=>
       cases R with
       | none=>simp[gJ] at h
       | some T=>
         simp only[gJ] at h
         split at h<;>try (simp at h;done)
         rename_i a b c hx hb D
         refine kL.v hi h fun v e=>?_
         obtain⟨z,u,A⟩:=Kc (P:=P) (w:=w) e (i x a hx) (i T b hb) (i m c D)
         exact⟨z,by simp only[execOp,Sem.run_bind,Option.map_none,j9];rw[u];simp,A⟩
   | none=>
     simp only[gJ] at h
     split at h<;>try (simp at h;done)
     rename_i a l hh hx I hhi
     refine kL.v hi h fun v e=>?_
     have key:∀ {Y:Option Operand} {r:Option AV},(match Y with
         | none=>some none
         | some a=>match ρ a with
           | some v=>some (some v)
           | none=>none)=some r→(∀ a x,r=some a→Y.map j=some x→VR g a x)∧r.isSome=(Y.map j).isSome:=by
       intro Y r e
       cases Y with
       | none=>simp only[ba] at e;subst e;simp
       | some a=>
         simp only at e
         split at e<;>simp only[ba,reduceCtorEq] at e
         rename_i v C
         subst e
         refine⟨fun a' x M U=>?_,rfl⟩
         simp only[j9,ba] at M U
         subst M;subst U;exact i a v C
     obtain⟨k1,k2⟩:=key I
     obtain⟨k3,k4⟩:=key hhi
     obtain⟨z,u,A⟩:=Hq (P:=P) hi (lx:=lo.map j) (hx:=R.map j) e (i x a hx) k1 k3 k2 k4
     exact⟨z,by simp only[execOp,Sem.run_bind,Option.map_none];rw[u];simp,A⟩
 | fieldAddr s x f=>
   simp only[gJ] at h
   split at h<;>try (simp at h;done)
   rename_i a hx
   refine kL.v hi h fun v e=>?_
   obtain⟨z,u,A⟩:=By (P:=P) (w:=w) e (i x a hx)
   exact⟨z,by simp[execOp,u],A⟩
 | field t x f=>
   simp only[gJ] at h
   split at h<;>try (simp at h;done)
   rename_i a hx
   refine kL.v hi h fun v e=>?_
   obtain⟨z,u,A⟩:=Hp (P:=P) (w:=w) e (i x a hx)
   exact⟨z,by simp[execOp,u],A⟩
 | indexAddr t x V=>
   simp only[gJ] at h
   split at h<;>try (simp at h;done)
   rename_i a b hx hy
   refine kL.v hi h fun v e=>?_
   obtain⟨z,u,A⟩:=Ct (P:=P) hi e (i x a hx) (i V b hy)
   exact⟨z,by simp[execOp,u],A⟩
 | index t x V=>
   simp only[gJ] at h
   split at h<;>try (simp at h;done)
   rename_i a b hx hy
   refine kL.v hi h fun v e=>?_
   obtain⟨z,u,A⟩:=Hu (P:=P) (w:=w) e (i x a hx) (i V b hy)
   exact⟨z,by simp[execOp,u],A⟩
 | lookup t x V ok=>
   simp only[gJ] at h
   split at h<;>try (simp at h;done)
   rename_i a b hx hy
   refine kL.v hi h fun v e=>?_
   obtain⟨z,u,A⟩:=Gw (P:=P) hi e (i x a hx) (i V b hy)
   exact⟨z,by simp[execOp,u],A⟩
 | mapUpdate t m k x=>
   simp only[gJ] at h
   split at h<;>try (simp at h;done)
   rename_i a b c h1 h2 h3
   refine kL.s h fun N e=>?_
   obtain⟨w', u,A,E⟩:=xP (P:=P) hi e (i m a h1) (i k b h2) (i x c h3)
   exact⟨w', g,by simp[execOp,u],A,E⟩
 | insert t m k x=>
   simp only[gJ] at h
   split at h<;>try (simp at h;done)
   rename_i a b c h1 h2 h3
   refine kL.s h fun N e=>?_
   obtain⟨w', u,A,E⟩:=xP (P:=P) hi e (i m a h1) (i k b h2) (i x c h3)
   exact⟨w', g,by simp[execOp,u],A,E⟩
 | range t x=>
   simp only[gJ] at h
   split at h<;>try (simp at h;done)
   rename_i a hx
   refine kL.p h fun v N e=>?_
   obtain⟨z,w', g', u,A,E,H⟩:=Hx (P:=P) hi e (i x a hx)
   exact⟨z,w', g', by simp[execOp,u],A,E,H⟩
 | next it s=>
   simp only[gJ] at h
   split at h<;>try (simp at h;done)
   rename_i a hx
   refine kL.p h fun v N e=>?_
   obtain⟨z,w', u,A,E,H⟩:=Ke (P:=P) (t:=ty) hi e (i it a hx)
   exact⟨z,w', g,by simp[execOp,u],A,E,H⟩
 | entry it=>
   simp only[gJ] at h
   split at h<;>try (simp at h;done)
   rename_i a hx
   refine kL.v hi h fun v e=>?_
   obtain⟨z,u,A⟩:=Hy (P:=P) hi e (i it a hx)
   exact⟨z,by simp[execOp,u],A⟩
 | typeAssert x xt t ok=>
   simp only[gJ] at h
   split at h<;>try (simp at h;done)
   rename_i a hx
   refine kL.v hi h fun v e=>?_
   obtain⟨z,u,A⟩:=Gy (P:=P) (w:=w) (xt:=xt) e (i x a hx)
   exact⟨z,by simp[execOp,u],A⟩
 | extract t V=>
   simp only[gJ] at h
   split at h<;>try (simp at h;done)
   rename_i vs hx
   refine kL.v hi h fun v e=>?_
   rw[j8] at e
   have C:=i t _ hx
   generalize hy:j t=y at C
   cases C with
   | bO I hh=>
     obtain⟨x,M,U⟩:=hM.get ⟨I,hh⟩ e
     exact⟨x,by simp[execOp,hy,Instr.extract,M],U⟩
 | call c=>
   simp only[gJ,xo] at h
   split at h<;>try (simp at h;done)
   rename_i args F
   have B:=tQ i F
   have ea:(c.args.toList.map j).toArray=c.args.map j:=by apply Array.ext';simp
   rw[ea] at B
   split at h
   · rename_i b D
     refine D0 (cs:=(c.args.map fun | .const _=>true | _=>false)) (ty:=ty) hi h B fun w' => ?_
     simp only[execOp,resolve,D,Sem.run_bind,Sem.run_pure,Result.andThen_ok,invoke,Array.toArray_toList]
     rfl
   · rename_i r Q D
     split at h<;>try (simp at h;done)
     rename_i t v hx
     split at h<;>try (simp at h;done)
     rename_i f vb W
     split at h<;>simp only[ba,reduceCtorEq] at h
     rename_i hb
     subst h
     have C:=i r _ hx
     generalize hy:j r=y at C
     cases C with
     | eB C=>
       rename_i x
       obtain⟨y,hrun,hvy⟩:=U7 (w:=w) (n:=P.types.size+(Made.depth-1)) W C
       refine⟨#[y]++c.args.map j,?_,hM.append (hM.cons (xs:=[]) hvy (hM.nil g)) B⟩
       have X:P.types.size+Made.depth=(P.types.size+(Made.depth-1))+1:=by
         have:1≤Made.depth:=by decide
         omega
       simp only[execOp,resolve,D,Sem.run_bind,Sem.run_pure,Result.andThen_ok,invoke,hy]
       have e0:(#[Value.iface t x]++c.args.map j)[0]? = some (.iface t x):=by rw[Jv (by simp)];rfl
       have M:(#[Value.iface t x]++c.args.map j).extract 1 (#[Value.iface t x]++c.args.map j).size=c.args.map j:=by
         apply Array.ext'
         rw[Array.toList_extract,List.extract_eq_take_drop]
         simp
         rw[Jz (by simp)]
       rw[e0]
       simp only[M,callMethod,Sem.run_bind,run_program,Result.andThen_ok,X,hrun,mW hb]
   · rename_i f D
     split at h<;>try (simp at h;done)
     · rename_i fg first cap hx
       split at h<;>simp only[ba,reduceCtorEq] at h
       rename_i hb
       subst h
       have C:=i f _ hx
       generalize hy:j f=y at C
       cases C with
       | fn O q2 q3 q4=>
         rename_i xs ys
         refine⟨xs++c.args.map j++ys,?_,hM.append (hM.append ⟨O,q3⟩ B) ⟨q2,q4⟩⟩
         simp only[execOp,resolve,D,Sem.run_bind,Sem.run_pure,Result.andThen_ok,invoke,hy,Deferred.ofValue,mW hb]
     rotate_left
     · rename_i y _ _ hx
       split at h<;>simp only[ba,reduceCtorEq] at h
       rename_i gf l hb
       subst h
       obtain⟨Q,t,v,first,cap,rfl,W,hbo,rfl⟩:=Dm hb
       have C:=i f _ hx
       generalize hy:j f=y at C
       cases C with
       | fn O q2 q3 q4=>
         rename_i xs ys
         have G:0<xs.size:=by rw[←O];simp
         have J:xs[0]? = some xs[0]:=Ak G
         have L:=q3 0 (.eB t v) _ rfl J
         generalize hz:xs[0]=z at L J
         cases L with
         | eB hvx=>
           rename_i x0
           have hxs:xs = #[Value.iface t x0]++xs.extract 1 xs.size:=by
            apply Array.ext'
            have:xs.toList=Value.iface t x0::xs.toList.tail:=by
             cases I:xs.toList with
             | nil=>rw[←vB,I] at J;simp at J
             | cons a r=>rw[←vB,I] at J;simp at J;simp[J]
            rw[B7,Array.toList_extract,List.extract_eq_take_drop]
            rw[this]
            simp
            rw[Jz (by simp)]
           have hq:hM g first (xs.extract 1 xs.size):=by
            refine⟨by have:=O;simp at this ⊢;omega,fun k a y e e' => q3 (k+1) a y (by simpa using e) ?_⟩
            rw[Fv] at e'
            split at e'
            · rw[←e', Nat.add_comm]
            · simp at e'
           refine⟨#[x0]++(xs.extract 1 xs.size++c.args.map j),?_,hM.append (hM.cons (xs:=[]) hvx (hM.nil g)) (hM.append hq B)⟩
           have X:P.types.size+Made.depth=(P.types.size+(Made.depth-1))+1:=by
            have:1≤Made.depth:=by decide
            omega
           simp only[execOp,resolve,D,Sem.run_bind,Sem.run_pure,Result.andThen_ok,invoke,hy,Deferred.ofValue]
           have e0:(xs++c.args.map j)[0]? = some (.iface t x0):=by rw[Jv G];exact J
           have M:(xs++c.args.map j).extract 1 (xs++c.args.map j).size=xs.extract 1 xs.size++c.args.map j:=by
            apply Array.ext'
            have h1:1≤xs.toList.length:=by simp;omega
            simp only[Array.toList_extract,B7,List.extract_eq_take_drop,Array.size_append]
            rw[List.drop_append_of_le_length h1,Jz (by simp;omega),Jz (by simp)]
           rw[e0]
           simp only[M,callMethod,Sem.run_bind,run_program,Result.andThen_ok,X,F5 W,mW hbo]
     · rename_i id hx
       simp only[ba] at h;subst h
       have C:=i f _ hx
       generalize hy:j f=y at C
       cases C with
       | sj I=>
         rename_i l
         refine⟨l,c.args.map j,I,?_,B⟩
         simp only[execOp,resolve,D,Sem.run_bind,Sem.run_pure,Result.andThen_ok,invoke,hy,Deferred.ofValue,Array.empty_append]
 | defer c=>
   simp only[gJ] at h
   split at h<;>try (simp at h;done)
   rename_i args F
   have B:=tQ i F
   have ea:(c.args.toList.map j).toArray=c.args.map j:=by apply Array.ext';simp
   rw[ea] at B
   split at h<;>try (simp at h;done)
   rename_i f D
   split at h<;>try (simp at h;done)
   rename_i fg first cap hx
   split at h<;>simp only[ba,reduceCtorEq] at h
   rename_i hb
   subst h
   have C:=i f _ hx
   generalize hy:j f=y at C
   cases C with
   | fn O q2 q3 q4=>
     rename_i xs ys
     refine⟨ys,xs++c.args.map j,?_,⟨q2,q4⟩,hM.append ⟨O,q3⟩ B,hb⟩
     simp only[execOp,resolve,D,Sem.run_bind,Sem.run_pure,Result.andThen_ok,hy,Deferred.ofValue]
 | panic x=>
   simp only[gJ] at h
   split at h<;>simp only[ba,reduceCtorEq] at h
   rename_i t v hx
   subst h
   have C:=i x _ hx
   generalize hy:j x=y at C
   cases C with
   | eB C=>exact⟨_,by simp[execOp,hy,Instr.panic],.eB C⟩
 | _=>simp[gJ] at h
end
noncomputable section
inductive bg where
 | code (c : Code)
 | inBlock (id : Nat)
 | inLoop (c : Code)
 | inScope (c : Code)
 | ops (all : Array Oper) (todo : List Nat)
 | zp (id : Nat)
 | n9 (id : Nat)
 | N0
inductive dr where
 | run
 | returning
 | panicking (chain : List (AV × Bool))
inductive hU where
 | call (fn : FuncId) (cap args : List AV)
 | nq (id : Nat)
 | uJ (bs : List Nat)
structure ae where
 fn : FuncId
 n : Nat
 mask : Nat
 loc : List (Nat × AV)
 qX : List (Nat × AV)
 todo : List bg
 defers : List hU
 mode : dr
 kind : CallKind
 cm : dr
 round : Option Nat
def tb (m n:Nat):Bool:=Nat.beq (Nat.land (Nat.shiftRight m n) 1) 1
def ae.get (F:ae)(t:Nat):Option AV:=
 match tb F.mask t with
 | true=>lk F.qX t
 | false=>lk F.loc t
def ae.set (F:ae)(t:Nat)(v:AV):ae:=
 match Nat.ble (t+1) F.n with
 | true=>match tb F.mask t with
   | true=>{ F with qX:=up F.qX t v }
   | false=>{ F with loc:=(t,v)::F.loc }
 | false=>F
def ae.put (F:ae)(d:Option Tmp)(v:AV):ae:=
 match d with
 | some t=>F.set t v
 | none=>F
def ae.eval (F:ae):Operand→Option AV
 | .tmp t=>F.get t
 | .const v=>some (ajY v)
 | .global _=>none
 | .func f=>some (.fn (.func f) [] [])
inductive xe (all : Array Oper) : List Nat → List Nat → Prop
 | nil : xe all [] []
 | cons {i : Nat} {l m : List Nat} (hi : i < all.size) (h : xe all l m) : xe all (i :: l) (i :: m)
 | rest (i0 wm sm : Nat) {fuel t : Nat} {aE : Array Bool} (hs : aE.size = all.size) (hl : ∀ j, aE.getD j false = decide (j < i0)) (hc : aE.toList.count false ≤ fuel) :
  xe all [all.size, i0, wm, sm] (Region.linearise.go .any all fuel t aE [])
theorem xe.refl {all:Array Oper}:∀ {l:List Nat},(∀ i,i∈l→i<all.size)→xe all l l:=by
 intro l
 induction l with
 | nil=>intro _;exact .nil
 | cons i l a=>intro h;exact .cons (h i (jq ..)) (a fun j b=>h j (Ez _ b))
inductive wq (g : Gh) : bg → Item → Prop
 | code {c : Code} : wq g (.code c) (.code c)
 | inBlock {id : Nat} : wq g (.inBlock id) (.inBlock id)
 | inLoop {c : Code} : wq g (.inLoop c) (.inLoop c)
 | inScope {c : Code} : wq g (.inScope c) (.inScope c)
 | ops {all : Array Oper} {l m : List Nat} (h : xe all l m) : wq g (.ops all l) (.inRegion all m)
 | zp {id : Nat} {l : Loc} (hl : g.ph id = some l) : wq g (.zp id) (.inRangeFunc l.cU)
 | n9 {id : Nat} {l : Loc} (hl : g.ph id = some l) : wq g (.n9 id) (.endRangeFunc l.cU)
 | N0 : wq g .N0 .beginRound
variable {g g' : Gh}
theorem wq.mono (d:Gh.le g g'){a:bg}{b:Item}(h:wq g a b):wq g' a b:=by
 cases h with
 | code=>exact .code
 | inBlock=>exact .inBlock
 | inLoop=>exact .inLoop
 | inScope=>exact .inScope
 | ops h=>exact .ops h
 | zp c=>exact .zp (d.ph _ _ c)
 | n9 c=>exact .n9 (d.ph _ _ c)
 | N0=>exact .N0
inductive nK (g : Gh) : List bg → List Item → Prop
 | nil : nK g [] []
 | cons {a : bg} {b : Item} {l : List bg} {m : List Item} (h : wq g a b) (t : nK g l m) : nK g (a :: l) (b :: m)
theorem nK.mono {g g' : Gh}(a:Gh.le g g'){l:List bg}{m:List Item}(h:nK g l m):nK g' l m:=by
 induction h with
 | nil=>exact .nil
 | cons h _ b=>exact .cons (h.mono a) b
inductive ia (g : Gh) : List (AV × Bool) → List PanicEntry → Prop
 | nil : ia g [] []
 | cons {v : AV} {x : Value} {b : Bool} {l : List (AV × Bool)} {m : List PanicEntry} (h : VR g v x) (t : ia g l m) : ia g ((v, b) :: l) ({ v := x, recovered := b } :: m)
theorem ia.mono {g g' : Gh}(a:Gh.le g g'){l:List (AV×Bool)}{m:List PanicEntry}(h:ia g l m):ia g' l m:=by
 induction h with
 | nil=>exact .nil
 | cons h _ b=>exact .cons (h.mono a) b
inductive mT (g : Gh) : dr → FrameMode → Prop
 | run : mT g .run .run
 | returning : mT g .returning .returning
 | panicking {l : List (AV × Bool)} {m : List PanicEntry} (h : ia g l m) : mT g (.panicking l) (.panicking m)
theorem mT.mono {g g' : Gh}(c:Gh.le g g'){a:dr}{b:FrameMode}(h:mT g a b):mT g' a b:=by
 cases h with
 | run=>exact .run
 | returning=>exact .returning
 | panicking h=>exact .panicking (h.mono c)
inductive kZ (P : Program) (g : Gh) : List hU → List Deferred → Prop
 | nil : kZ P g [] []
 | cons {f : FuncId} {cap args : List AV} {ys xs : Array Value} {l : List hU} {m : List Deferred} (hc : hM g cap ys) (ha : hM g args xs) (hb : nz P f = true) (t : kZ P g l m) :
  kZ P g (.call f cap args :: l) ({ target := .fn (.func f) ys, args := xs } :: m)
 | nq {id : Nat} {l : Loc} {k : List hU} {m : List Deferred} (hl : g.ph id = some l) (t : kZ P g k m) : kZ P g (.nq id :: k) ({ target := .collected l.cU, args := #[] } :: m)
 | uJ {bs : List Nat} {k : List hU} {m : List Deferred} (t : kZ P g k m) : kZ P g (.uJ bs :: k) (bs.map (fun b => ({ target := .collected b, args := #[] } : Deferred)) ++ m)
theorem kZ.mono {P:Program}{g g' : Gh}(b:Gh.le g g'){l:List hU}{m:List Deferred}(h:kZ P g l m):kZ P g' l m:=by
 induction h with
 | nil=>exact .nil
 | cons c ha hb _ a=>exact .cons (c.mono b) (ha.mono b) hb a
 | nq d _ a=>exact .nq (b.ph _ _ d) a
 | uJ _ a=>exact .uJ a
def ra (g:Gh):Option Nat→Option Nat→Prop
 | none,none=>True
 | some id,some b=>∃ l,g.ph id=some l∧l.cU=b
 | _,_=>False
theorem ra.mono (c:Gh.le g g'){a b:Option Nat}(h:ra g a b):ra g' a b:=by
 cases a<;>cases b<;>first | exact h | exact(let ⟨l,e,d⟩:=h;⟨l,c.ph _ _ e,d⟩)
structure m8 (P : Program) (g : Gh) (F : ae) (fr : Frame) : Prop where
 fn : fr.fn = F.fn
 size : fr.tmps.size = F.n
 get : ∀ t v, F.get t = some v → ∃ x, fr.tmps[t]? = some x ∧ VR g v x
 todo : nK g F.todo fr.todo
 defers : kZ P g F.defers fr.defers
 mode : mT g F.mode fr.mode
 kind : fr.kind = F.kind
 round : ra g F.round fr.roundOf
theorem m8.mono {P:Program}{g g' : Gh}(c:Gh.le g g'){F:ae}{fr:Frame}(h:m8 P g F fr):m8 P g' F fr:=
 ⟨h.fn,h.size,fun t v e=>let ⟨x,a,b⟩:=h.get t v e;⟨x,a,b.mono c⟩,h.todo.mono c,h.defers.mono c,h.mode.mono c,h.kind,h.round.mono c⟩
def wZ (g:Gh)(F:ae)(a cs:List Frame):Prop:=
 match F.kind with
 | .deferred=>∃ c rest m,a=c::rest∧cs={ c with mode:=m }::rest∧mT g F.cm m
 | _=>cs=a
theorem wZ.mono {g g' : Gh}(f:Gh.le g g'){F:ae}{e cs:List Frame}(h:wZ g F e cs):wZ g' F e cs:=by
 unfold wZ at *
 split at h
 · obtain⟨c,rest,m,a,b,d⟩:=h;exact⟨c,rest,m,a,b,d.mono f⟩
 · exact h
variable {F F' : ae}
theorem wZ.congr {a cs:List Frame}(b:F'.kind=F.kind)(c:F'.cm=F.cm)(h:wZ g F a cs):wZ g F' a cs:=by
 simp_all[wZ]
variable {P : Program} {fr : Frame}
theorem Ld.of (h:m8 P g F fr):Ld g F.eval fr.eval:=by
 intro x v e
 cases x with
 | tmp t=>
   obtain⟨y,hy,b⟩:=h.get t v e
   have:fr.eval (.tmp t)=y:=by simp[Frame.eval,oc,hy]
   rw[this];exact b
 | const c=>simp only[ae.eval,ba] at e;subst e;exact u4 g c
 | global _=>simp[ae.eval] at e
 | func f=>simp only[ae.eval,ba] at e;subst e;exact .fn rfl rfl (fun k a x e=>by simp at e) (fun k a x e=>by simp at e)
theorem m8.put {P:Program}{g:Gh}{F:ae}{fr:Frame}(h:m8 P g F fr){d:Option Tmp}{v:AV}{x:Value}(p:VR g v x){tmps:Array Value}
   (i:tmps=match d with | some t=>fr.tmps.setIfInBounds t x | none=>fr.tmps):m8 P g (F.put d v) { fr with tmps:=tmps }:=by
 cases d with
 | none=>simp only at i;subst i;exact h
 | some t=>
   simp only at i;subst i
   simp only[ae.put,ae.set]
   have f:=h.size
   have base:∀(F' : ae),F'.fn=F.fn→F'.n=F.n→F'.todo=F.todo→F'.defers=F.defers→F'.mode=F.mode→F'.kind=F.kind→F'.round=F.round →
       (∀ s u,F'.get s=some u→∃ y,(fr.tmps.setIfInBounds t x)[s]? = some y∧VR g u y)→m8 P g F' { fr with tmps:=fr.tmps.setIfInBounds t x }:=by
     intro F' r a2 a3 a4 a5 a6 a7 w
     exact⟨by rw[r];exact h.fn,by simp_all,w,by rw[a3];exact h.todo,by rw[a4];exact h.defers,by rw[a5];exact h.mode,by rw[a6];exact h.kind,by rw[a7];exact h.round⟩
   split
   · rename_i hb
     have hb:=gb hb
     have c:t<fr.tmps.size:=by rw[f];exact hb
     split
     · rename_i j
       refine base _ rfl rfl rfl rfl rfl rfl rfl fun s u e=>?_
       simp only[ae.get] at e
       by_cases a:s=t
       · subst a
         rw[j] at e
         simp only[vM,ba] at e
         subst e
         exact⟨x,by simp[c],p⟩
       · have k:F.get s=some u:=by
          simp only[ae.get]
          split at e
          · rename_i b;rw[tO _ _ a] at e;first | exact e | (rw[show tb F.mask s=true from b];exact e)
          · rename_i b;first | exact e | (rw[show tb F.mask s=false from b];exact e)
         obtain⟨y,hy,hu⟩:=h.get s u k
         exact⟨y,by rw[ny,if_neg (Ne.symm a)];exact hy,hu⟩
     · rename_i j
       refine base _ rfl rfl rfl rfl rfl rfl rfl fun s u e=>?_
       simp only[ae.get] at e
       by_cases a:s=t
       · subst a
         rw[j] at e
         simp only[iz,vD,ba] at e
         subst e
         exact⟨x,by simp[c],p⟩
       · have k:F.get s=some u:=by
          simp only[ae.get]
          split at e
          · rename_i b;first | exact e | (rw[show tb F.mask s=true from b];exact e)
          · rename_i b
            simp only[iz] at e
            rw[show Nat.beq t s=false from by rw[sw];exact fun q=>a (np q).symm] at e
            first | exact e | (rw[show tb F.mask s=false from b];exact e)
         obtain⟨y,hy,hu⟩:=h.get s u k
         exact⟨y,by rw[ny,if_neg (Ne.symm a)];exact hy,hu⟩
   · rename_i hb
     have o:¬ t<fr.tmps.size:=by
       intro c
       rw[EY (show t+1≤F.n by rw[←f];exact c)] at hb;simp at hb
     refine base F rfl rfl rfl rfl rfl rfl rfl fun s u e=>?_
     obtain⟨y,hy,hu⟩:=h.get s u e
     exact ⟨y, by rw[ny];split
                  · rename_i a;subst a;exact absurd (y8.1 hy).1 o
                  · exact hy,hu⟩
theorem ae.U8 (F:ae)(d:Option Tmp)(v:AV):(F.put d v).kind=F.kind∧(F.put d v).cm=F.cm∧(F.put d v).todo=F.todo∧(F.put d v).mode=F.mode∧(F.put d v).round=F.round∧(F.put d v).defers=F.defers:=by
 cases d with
 | none=>exact⟨rfl,rfl,rfl,rfl,rfl,rfl⟩
 | some t=>
   simp only[ae.put,ae.set]
   split
   · split<;>exact⟨rfl,rfl,rfl,rfl,rfl,rfl⟩
   all_goals simp_all
def Reach (P:Program)(F:ae)(S:ag)(G:ae→ag→Prop):Prop:=
 ∀ (g:Gh) (w:World) (fr:Frame) (a cs:List Frame),m8 P g F fr→wZ g F a cs→Inv S g w →
  ∃ F' d g' w' b c,G F' d∧m8 P g' F' b∧wZ g' F' a c∧F'.kind=F.kind∧F'.fn=F.fn∧F'.round=F.round∧Inv d g' w' ∧ Ext S g w d g' w' ∧ Steps P (lone fr cs w) (lone b c w')
variable {S : ag} {G : ae → ag → Prop}
theorem Reach.done (h:G F S):Reach P F S G:=
 fun g w fr _ cs a b c=>⟨F,S,g,w,fr,cs,h,a,b,rfl,rfl,rfl,c,Ext.refl _ _ _,Steps.refl _ _⟩
theorem Reach.mono {j:ae→ag→Prop}(h:Reach P F S G)(k:∀ F' d,G F' d→j F' d):Reach P F S j:=
 fun g w fr e cs a b c=>let ⟨F', d,g', w', f,i,q,rest⟩:=h g w fr e cs a b c;⟨F', d,g', w', f,i,k _ _ q,rest⟩
theorem Reach.trans {P:Program}{F:ae}{S:ag}{G k:ae→ag→Prop}(h:Reach P F S G)(o:∀ F' n,G F' n→Reach P F' n k):Reach P F S k:=by
 intro g w fr d cs a b c
 obtain⟨F1,p,r,w1,e,f,q,s,t,u,v,x,y,z,A⟩:=h g w fr d cs a b c
 obtain⟨F2,B,C,D,i,j,E,H,I,J,K,L,M,N,O⟩:=o F1 p q r w1 e d f s t y
 exact⟨F2,B,C,D,i,j,E,H,I,J.trans u,K.trans v,L.trans x,M,z.trans N,Steps.trans A O⟩
theorem Reach.quiet (h:Reach P F' S G)(j:F'.kind=F.kind)(hf:F'.fn=F.fn)(k:F'.round=F.round)(n:F'.cm=F.cm)(hs:∀ g w fr cs,m8 P g F fr→Inv S g w→∃ d,m8 P g F' d∧step P (lone fr cs w)=.next (lone d cs w)):Reach P F S G:=by
 intro g w fr e cs a b c
 obtain⟨d,o,p⟩:=hs g w fr cs a c
 obtain⟨F2,q,r,s,f,i,t,u,v,x,y,z,A,B,C⟩:=h g w d e cs o (b.congr j n) c
 exact⟨F2,q,r,s,f,i,t,u,v,x.trans j,y.trans hf,z.trans k,A,B,Steps.head p C⟩
def tE (id:Nat):List bg→Option (List bg)
 | []=>none
 | .inBlock a::k=>match Nat.beq a id with
   | true=>some k
   | false=>tE id k
 | _::k=>tE id k
variable {l : List bg} {m : List Item}
theorem xF {id:Nat}(h:nK g l m):match tE id l with
   | some l' => ∃ b,exitTo id m=some b∧nK g l' b
   | none=>exitTo id m=none:=by
 induction h with
 | nil=>simp[tE,exitTo]
 | cons hh d c=>
   cases hh with
   | inBlock=>
     rename_i l m a
     simp only[tE,exitTo]
     cases hb:Nat.beq a id with
     | true=>
       simp_all
     | false=>
       have:(a==id)=false:=by
        rw[beq_eq_false_iff_ne];intro e;simp_all
       simp_all
   | _=>simp only[tE,exitTo];exact c
def Rl (F:ae):Option ae:=
 match F.mode with
 | .run=>match F.todo with
   | []=>match F.round with
     | none=>some { F with mode:=.returning }
     | some _=>none
   | .code .ret::_=>match F.round with
     | none=>some { F with mode:=.returning }
     | some _=>none
   | .code .skip::k=>some { F with todo:=k }
   | .code (.label _)::k=>some { F with todo:=k }
   | .inBlock _::k=>some { F with todo:=k }
   | .inScope _::k=>some { F with todo:=k }
   | .code (.seq a b)::k=>some { F with todo:=.code a :: .code b::k }
   | .code (.cond c a b)::k=>match F.eval c with
     | some (.sc (.bool true))=>some { F with todo:=.code a::k }
     | some (.sc (.bool false))=>some { F with todo:=.code b::k }
     | _=>none
   | .code (.block id b)::k=>some { F with todo:=.code b :: .inBlock id::k }
   | .code (.loop b)::k=>some { F with todo:=.code b :: .inLoop b::k }
   | .inLoop b::k=>some { F with todo:=.code b :: .inLoop b::k }
   | .code (.scope b)::k=>some { F with todo:=.code b :: .inScope b::k }
   | .code (.exit id)::k=>match tE id k with
     | some d=>some { F with todo:=d }
     | none=>none
   | .code (.region _ all false)::k=>some { F with todo:=.ops all (List.range all.size)::k,loc:=[] }
   | .ops _ []::k=>some { F with todo:=k,loc:=[] }
   | _=>none
 | _=>none
theorem m8.with {P:Program}{g:Gh}{F:ae}{fr:Frame}(h:m8 P g F fr){l:List bg}{m:List Item}(a:nK g l m):m8 P g { F with todo:=l } { fr with todo:=m }:=
 ⟨h.fn,h.size,h.get,a,h.defers,h.mode,h.kind,h.round⟩
theorem m8.aab (h:m8 P g F fr)(a:nK g l m):m8 P g { F with todo:=l,loc:=[] } { fr with todo:=m }:=by
 refine⟨h.fn,h.size,?_,a,h.defers,h.mode,h.kind,h.round⟩
 intro t v e
 simp only[ae.get] at e
 split at e
 · rename_i b
   exact h.get t v (by simp_all[ae.get])
 · simp[q7] at e
theorem OZ (h:Rl F=some F'):F'.kind=F.kind∧F'.fn=F.fn∧F'.round=F.round∧F'.cm=F.cm:=by
 unfold Rl at h
 split at h<;>try (simp at h;done)
 split at h<;>(try (split at h))<;>simp only[ba,reduceCtorEq] at h<;>(subst h;simp_all)
theorem O0 (h:Rl F=some F')(g:Gh)(w:World)(fr:Frame)(cs:List Frame)(hf:m8 P g F fr) :
   ∃ r,m8 P g F' r∧step P (lone fr cs w)=.next (lone r cs w):=by
 have u:=Ld.of hf
 unfold Rl at h
 split at h<;>try (simp at h;done)
 rename_i q
 have n:fr.mode=.run:=by
   have:=hf.mode
   rw[q] at this
   generalize fr.mode=B at this ⊢
   cases this;rfl
 have j:=hf.todo
 have o:F.round=none→fr.roundOf=none:=by
   intro e;have:=hf.round;rw[e] at this;cases s:fr.roundOf with
   | none=>rfl
   | some b=>rw[s] at this;exact this.elim
 split at h
 · rename_i f
   rw[f] at j
   split at h<;>simp only[ba,reduceCtorEq] at h
   rename_i p
   subst h
   generalize d:fr.todo=td at j
   cases j
   refine⟨{ fr with mode:=.returning },⟨hf.fn,hf.size,hf.get,hf.todo,hf.defers,.returning,hf.kind,hf.round⟩,step_lone_go ?_⟩
   simp[stepG,stepG.exec,n,d,o p]
 · rename_i f
   rw[f] at j
   split at h<;>simp only[ba,reduceCtorEq] at h
   rename_i p
   subst h
   generalize d:fr.todo=td at j
   cases j with | cons h1 h2=>?_
   cases h1
   refine⟨{ fr with mode:=.returning },⟨hf.fn,hf.size,hf.get,hf.todo,hf.defers,.returning,hf.kind,hf.round⟩,step_lone_go ?_⟩
   simp[stepG,stepG.exec,n,d,o p]
 all_goals first | (simp at h;done) | (rename_i f;rw[f] at j;generalize d:fr.todo=td at j)
 · simp only[ba] at h;subst h
   cases j with | cons h1 h2=>?_
   cases h1
   exact⟨_,hf.with h2,step_lone_go (by simp[stepG,stepG.exec,n,d])⟩
 · simp only[ba] at h;subst h
   cases j with | cons h1 h2=>?_
   cases h1
   exact⟨_,hf.with h2,step_lone_go (by simp[stepG,stepG.exec,n,d])⟩
 · simp only[ba] at h;subst h
   cases j with | cons h1 h2=>?_
   cases h1
   exact⟨_,hf.with h2,step_lone_go (by simp[stepG,stepG.exec,n,d])⟩
 · simp only[ba] at h;subst h
   cases j with | cons h1 h2=>?_
   cases h1
   exact⟨_,hf.with h2,step_lone_go (by simp[stepG,stepG.exec,n,d])⟩
 · simp only[ba] at h;subst h
   cases j with | cons h1 h2=>?_
   cases h1
   exact⟨_,hf.with (.cons .code (.cons .code h2)),step_lone_go (by simp[stepG,stepG.exec,n,d])⟩
 · rename_i c a b k
   cases j with | cons h1 h2=>?_
   cases h1
   have hb:∀ t,F.eval c=some (.sc (.bool t))→fr.eval c=.bool t:=by
     intro t e;have:=u c _ e;generalize fr.eval c=y at this;cases this;rfl
   split at h<;>simp only[ba,reduceCtorEq] at h
   · rename_i e
     subst h
     exact⟨_,hf.with (.cons .code h2),step_lone_go (by simp[stepG,stepG.exec,n,d,hb _ e])⟩
   · rename_i e
     subst h
     exact⟨_,hf.with (.cons .code h2),step_lone_go (by simp[stepG,stepG.exec,n,d,hb _ e])⟩
 · simp only[ba] at h;subst h
   cases j with | cons h1 h2=>?_
   cases h1
   exact⟨_,hf.with (.cons .code (.cons .inBlock h2)),step_lone_go (by simp[stepG,stepG.exec,n,d])⟩
 · simp only[ba] at h;subst h
   cases j with | cons h1 h2=>?_
   cases h1
   exact⟨_,hf.with (.cons .code (.cons .inLoop h2)),step_lone_go (by simp[stepG,stepG.exec,n,d])⟩
 · simp only[ba] at h;subst h
   cases j with | cons h1 h2=>?_
   cases h1
   exact⟨_,hf.with (.cons .code (.cons .inLoop h2)),step_lone_go (by simp[stepG,stepG.exec,n,d])⟩
 · simp only[ba] at h;subst h
   cases j with | cons h1 h2=>?_
   cases h1
   exact⟨_,hf.with (.cons .code (.cons .inScope h2)),step_lone_go (by simp[stepG,stepG.exec,n,d])⟩
 · rename_i v C
   cases j with | cons h1 h2=>?_
   cases h1
   split at h<;>simp only[ba,reduceCtorEq] at h
   rename_i D x
   subst h
   have:=xF (id:=v) h2
   rw[x] at this
   obtain⟨E,z,A⟩:=this
   exact⟨_,hf.with A,step_lone_go (by simp[stepG,stepG.exec,n,d,z])⟩
 · simp only[ba] at h;subst h
   cases j with | cons h1 h2=>?_
   cases h1
   exact⟨_,hf.aab (.cons (.ops (xe.refl fun i hi=>List.mem_range.1 hi)) h2),step_lone_go (by simp[stepG,stepG.exec,n,d])⟩
 · simp only[ba] at h;subst h
   cases j with | cons h1 h2=>?_
   cases h1
   rename_i s
   cases s
   exact⟨_,hf.aab h2,step_lone_go (by simp[stepG,stepG.exec,n,d])⟩
theorem Reach.ae8 (hs:Rl F=some F')(h:Reach P F' S G):Reach P F S G:=by
 obtain⟨a,b,c,d⟩:=OZ hs
 exact h.quiet a b c d fun g w fr cs hf _=>O0 hs g w fr cs hf
end
noncomputable section
def tx (F:ae)(all:Array Oper)(o:Oper):Option Bool:=
 match o.guard with
 | none=>some true
 | some (j,a)=>match all[j]? with
   | some c=>match c.dst with
     | some d=>match F.get d with
       | some (.sc (.bool b))=>some (b==a)
       | some (.bO [])=>some false
       | _=>none
     | none=>none
   | none=>none
variable {P : Program} {g : Gh} {F : ae} {fr : Frame} {all : Array Oper} {o : Oper}
theorem lv (hf:m8 P g F fr){b:Bool}(h:tx F all o=some b):Region.wanted o (yielded all fr.tmps)=b:=by
 unfold tx at h
 split at h
 · simp_all[Region.wanted]
 · rename_i j p e
   split at h<;>try (simp at h;done)
   rename_i q m
   split at h<;>try (simp at h;done)
   rename_i d n
   split at h<;>simp only[ba,reduceCtorEq] at h
   · rename_i c a
     subst h
     obtain⟨x,hx,l⟩:=hf.get d _ a
     cases l
     simp[Region.wanted,e,yielded,m,n,hx]
   · rename_i a
     subst h
     obtain⟨x,hx,l⟩:=hf.get d _ a
     cases l
     simp[Region.wanted,e,yielded,m,n,hx]
def ct : Op→Bool
 | .defer _=>true
 | .call c=>match c.callee with
   | .builtin .recover=>true
   | _=>false
 | _=>false
section
variable {P : Program} {fr : Frame} {cs : List Frame} {w : World} {all : Array Oper} {i : Nat} {rest : List Nat} {k : List Item} {o : Oper}
theorem gQ (d:fr.mode=.run)(b:fr.todo=.inRegion all (i::rest)::k)(c:all[i]? = some o)(e:Region.wanted o (yielded all fr.tmps)=true)(a:fr.roundOf=none∨ct o.op=false) :
   stepG P true { frame:=fr,callers:=cs,status:=.running,dying:=none } w=stepG.apply P true fr cs none (execOp fr.eval o) w:=by
 have h1:stepG P true { frame:=fr,callers:=cs,status:=.running,dying:=none } w=stepG.oper P true fr cs none w:=by
   simp[stepG,stepG.exec,d,b,c,e]
 rw[h1]
 have h2:fr.oper? = some o:=by simp[Frame.oper?, b,c]
 rcases a with a | a
 · simp[stepG.oper,h2,a]
 · unfold stepG.oper
   rw[h2]
   simp only
   split
   all_goals simp_all[ct]
theorem zh (a:fr.mode=.run)(b:fr.todo=.inRegion all (i::rest)::k)(c:all[i]? = some o)(d:Region.wanted o (yielded all fr.tmps)=false) :
 step P (lone fr cs w)=.next (lone (fr.finish undef) cs w):=step_lone_go (by simp[stepG,stepG.exec,a,b,c,d])
theorem yn (a:fr.todo=.inRegion all (i::rest)::k)(b:all[i]? = some o)(v:Value) :
  fr.finish v={ fr with tmps:=(match o.dst with | some t=>fr.tmps.setIfInBounds t v | none=>fr.tmps),todo:=.inRegion all rest::k }:=by
 simp only[Frame.finish,a,b,ax]
 rfl
variable {v : Value} {w' : World}
theorem AQ (hs:stepG P true { frame:=fr,callers:=cs,status:=.running,dying:=none } w=stepG.apply P true fr cs none (execOp fr.eval o) w)(a:(execOp fr.eval o).run P w=.ok (.value v) w'):step P (lone fr cs w)=.next (lone (fr.finish v) cs w'):=step_lone_go (by rw[hs];simp[stepG.apply,a])
theorem Dn (hs:stepG P true { frame:=fr,callers:=cs,status:=.running,dying:=none } w=stepG.apply P true fr cs none (execOp fr.eval o) w)(a:(execOp fr.eval o).run P w=.ok .skip w'):step P (lone fr cs w)=.next (lone (fr.finish undef) cs w'):=step_lone_go (by rw[hs];simp[stepG.apply,a])
theorem U9 (hs:stepG P true { frame:=fr,callers:=cs,status:=.running,dying:=none } w=stepG.apply P true fr cs none (execOp fr.eval o) w)(a:(execOp fr.eval o).run P w=.halt (.panic v) w'):step P (lone fr cs w)=.next (lone (fr.raise [{ v,recovered:=false }]) cs w'):=step_lone_go (by rw[hs];simp[stepG.apply,a])
theorem Va {d:Deferred}(hs:stepG P true { frame:=fr,callers:=cs,status:=.running,dying:=none } w=stepG.apply P true fr cs none (execOp fr.eval o) w)(a:(execOp fr.eval o).run P w=.ok (.defer d) w'):step P (lone fr cs w)=.next (lone ({ fr with defers:=d::fr.defers }.finish undef) cs w'):=step_lone_go (by rw[hs];simp[stepG.apply,a])
variable {f : FuncId}
theorem F6 {args:Array Value}(hs:stepG P true { frame:=fr,callers:=cs,status:=.running,dying:=none } w=stepG.apply P true fr cs none (execOp fr.eval o) w)(a:fr.todo=.inRegion all (i::rest)::k)(b:(execOp fr.eval o).run P w=.ok (.enter f args) w'):step P (lone fr cs w)=.next (lone (Frame.enter P f args .normal) (fr::cs) w'):=
 step_lone_go (by rw[hs];simp[stepG.apply,b,a])
end
def ae.after (F:ae)(o:Oper)(v:AV)(all:Array Oper)(rest:List Nat)(k:List bg):ae:={ F.put o.dst v with todo:=.ops all rest::k }
theorem ae.iO (F:ae)(o:Oper)(v:AV)(all:Array Oper)(rest:List Nat)(k:List bg) :
  (F.after o v all rest k).kind=F.kind∧(F.after o v all rest k).fn=F.fn∧(F.after o v all rest k).round=F.round∧(F.after o v all rest k).cm=F.cm:=by
 have h:=F.U8 o.dst v
 have a:(F.put o.dst v).fn=F.fn:=by
  unfold ae.put ae.set
  split
  · split
    · split<;>rfl
    · rfl
  · rfl
 exact⟨h.1,a,h.2.2.2.2.1,h.2.1⟩
structure afv (g : Gh) (all : Array Oper) (l : List Nat) (k : List bg) (q : List Nat × List Item) : Prop where
 r : xe all l q.1
 t : nK g k q.2
theorem afv.mono {g g' : Gh}(a:Gh.le g g'){all:Array Oper}{l:List Nat}{k:List bg}{q:List Nat×List Item}(h:afv g all l k q):afv g' all l k q:=⟨h.r,h.t.mono a⟩
theorem m8.after {P:Program}{g:Gh}{F:ae}{fr:Frame}(h:m8 P g F fr){all:Array Oper}{i:Nat}{rest:List Nat}{k:List bg}{m:List Nat×List Item}{o:Oper}{v:AV}{x:Value}
  (b:fr.todo=.inRegion all (i::m.1)::m.2) (a:afv g all rest k m) (c:all[i]? = some o) (d:VR g v x):m8 P g (F.after o v all rest k) (fr.finish x):=by
 rw[yn b c]
 exact(h.put d rfl).with (.cons (.ops a.r) a.t)
variable {i : Nat} {k : List bg}
theorem m8.split (h:m8 P g F fr){l:List Nat}(b:F.todo=.ops all (i::l)::k)(c:all[i]? = some o):∃ m:List Nat×List Item,fr.todo=.inRegion all (i::m.1)::m.2∧afv g all l k m:=by
 have:=h.todo
 rw[b] at this
 generalize d:fr.todo=td at this
 cases this with | cons h1 h2=>?_
 cases h1 with | ops a=>?_
 cases a with
 | cons _ a=>exact⟨(_,_),rfl,a,h2⟩
 | rest=>simp at c
theorem m8.runs (h:m8 P g F fr)(a:F.mode=.run):fr.mode=.run:=by
 have:=h.mode
 rw[a] at this
 generalize fr.mode=b at this ⊢
 cases this;rfl
theorem m8.JQ (h:m8 P g F fr)(a:F.round=none):fr.roundOf=none:=by
 have:=h.round
 rw[a] at this
 cases e:fr.roundOf with
 | none=>rfl
 | some b=>rw[e] at this;exact this.elim
section
variable {P : Program} {F : ae} {S : ag} {G : ae → ag → Prop} {all : Array Oper} {i : Nat} {rest : List Nat} {k : List bg} {o : Oper}
theorem Reach.FK (n:F.mode=.run)(p:F.todo=.ops all (i::rest)::k)(j:all[i]? = some o)(q:tx F all o=some false)(h:Reach P (F.after o (.bO []) all rest k) S G):Reach P F S G:=by
 obtain⟨a,b,c,d⟩:=F.iO o (.bO []) all rest k
 refine h.quiet a b c d fun g w fr cs hf _=>?_
 obtain⟨m,l,r⟩:=hf.split p j
 exact⟨fr.finish undef,hf.after l r j (.bO rfl (fun k a x e=>by simp at e)),zh (hf.runs n) l j (lv hf q)⟩
variable {S' : ag}
theorem Reach.DS {F' : ae}(h:Reach P F' S' G)(m:F'.kind=F.kind)(hf:F'.fn=F.fn)(p:F'.round=F.round)(q:F'.cm=F.cm)(hs:∀ g w fr cs,m8 P g F fr→Inv S g w→∃ d w' g', m8 P g' F' d∧Inv S' g' w' ∧ Ext S g w S' g' w' ∧ Steps P (lone fr cs w) (lone d cs w')):Reach P F S G:=by
 intro g w fr e cs a b c
 obtain⟨d,w', g', r,s,n,t⟩:=hs g w fr cs a c
 obtain⟨F2,u,x,y,j,l,z,A,B,C,D,E,H,I,J⟩:=h g' w' d e cs r ((b.mono n.pc).congr m q) s
 exact⟨F2,u,x,y,j,l,z,A,B,C.trans m,D.trans hf,E.trans p,H,n.trans I,Steps.trans t J⟩
theorem Reach.Oj {v:AV}(p:F.mode=.run)(q:F.todo=.ops all (i::rest)::k)(e:all[i]? = some o)(r:tx F all o=some true)(l:ct o.op=false)(ha:gJ P F.eval S o.op=some (.val v S'))(h:Reach P (F.after o v all rest k) S' G):Reach P F S G:=by
 obtain⟨a,b,c,d⟩:=F.iO o v all rest k
 refine h.DS a b c d fun g w fr cs hf hi=>?_
 obtain⟨m,n,s⟩:=hf.split q e
 obtain⟨x,w', g', t,u,y,j⟩:=kd hi (Ld.of hf) ha
 exact⟨fr.finish x,w', g', (hf.mono j.pc).after n (s.mono j.pc) e u,y,j,.one (AQ (gQ (hf.runs p) n e (lv hf r) (.inr l)) t)⟩
theorem Reach.Qt (q:F.mode=.run)(r:F.todo=.ops all (i::rest)::k)(j:all[i]? = some o)(s:tx F all o=some true)(n:ct o.op=false)(ha:gJ P F.eval S o.op=some (.skip S'))(h:Reach P (F.after o (.bO []) all rest k) S' G):Reach P F S G:=by
 obtain⟨a,b,c,d⟩:=F.iO o (.bO []) all rest k
 refine h.DS a b c d fun g w fr cs hf hi=>?_
 obtain⟨m,p,t⟩:=hf.split r j
 obtain⟨w', g', u,y,l⟩:=kd hi (Ld.of hf) ha
 exact⟨fr.finish undef,w', g', (hf.mono l.pc).after p (t.mono l.pc) j (.bO rfl (fun k a x e=>by simp at e)),y,l,.one (Dn (gQ (hf.runs q) p j (lv hf s) (.inr n)) u)⟩
theorem Reach.aeb {v:AV}(d:F.mode=.run)(e:F.todo=.ops all (i::rest)::k)(c:all[i]? = some o)(j:tx F all o=some true)(b:ct o.op=false)
  (ha:gJ P F.eval S o.op=some (.wh v)) (h:Reach P { F with mode:=.panicking [(v,false)] } S G):Reach P F S G:=by
 refine h.DS rfl rfl rfl rfl fun g w fr cs hf hi=>?_
 obtain⟨m,l,q⟩:=hf.split e c
 obtain⟨x,n,p⟩:=kd hi (Ld.of hf) ha
 have a:=hf.runs d
 refine⟨fr.raise [{ v:=x,recovered:=false }],w,g,?_,hi,Ext.refl _ _ _,.one (U9 (gQ a l c (lv hf j) (.inr b)) n)⟩
 have:fr.raise [{ v:=x,recovered:=false }]={ fr with mode:=.panicking [{ v:=x,recovered:=false }] }:=by simp[Frame.raise,a]
 rw[this]
 exact⟨hf.fn,hf.size,hf.get,hf.todo,hf.defers,.panicking (.cons p .nil),hf.kind,hf.round⟩
variable {f : FuncId} {args : List AV}
theorem Reach.aec {cap:List AV}(p:F.mode=.run)(q:F.todo=.ops all (i::rest)::k)(j:all[i]? = some o)(r:tx F all o=some true)(s:F.round=none)(ha:gJ P F.eval S o.op=some (.rW f cap args))(h:Reach P { F.after o (.bO []) all rest k with defers:=.call f cap args::F.defers } S G):Reach P F S G:=by
 obtain⟨a,b,c,d⟩:=F.iO o (.bO []) all rest k
 refine h.DS a b c d fun g w fr cs hf hi=>?_
 obtain⟨m,n,t⟩:=hf.split q j
 obtain⟨ys,xs,u,y,z,A⟩:=kd hi (Ld.of hf) ha
 have l:=hf.runs p
 refine⟨_,w,g,?_,hi,Ext.refl _ _ _,.one (Va (gQ l n j (lv hf r) (.inl (hf.JQ s))) u)⟩
 have h1:=hf.after (v:=.bO []) (x:=undef) n t j (.bO rfl (fun k a x e=>by simp at e))
 have h2:({ fr with defers:={ target:=.fn (.func f) ys,args:=xs }::fr.defers }:Frame).finish undef={ fr.finish undef with defers:={ target:=.fn (.func f) ys,args:=xs }::fr.defers }:=by
  rw[yn n j]
  exact yn (fr:={ fr with defers:={ target:=.fn (.func f) ys,args:=xs }::fr.defers }) n j undef
 rw[h2]
 exact⟨h1.fn,h1.size,h1.get,h1.todo,.cons y z A hf.defers,h1.mode,h1.kind,h1.round⟩
end
inductive gL where
 | ret (v : AV)
 | wh (chain : List (AV × Bool))
def N5 (g:Gh):gL→Ending→Prop
 | .ret v,.returned x=>VR g v x
 | .wh l,.panicked m=>ia g l m
 | _,_=>False
theorem N5.mono {g g' : Gh}(a:Gh.le g g'){r:gL}{e:Ending}(h:N5 g r e):N5 g' r e:=by
 cases r<;>cases e<;>first | exact VR.mono a h | exact ia.mono a h | exact h
def fY (P:Program)(f:FuncId)(args:List AV)(S:ag)(Q:gL→ag→Prop):Prop:=
 ∀ (g:Gh) (w:World) (xs:Array Value),hM g args xs→Inv S g w →
  Calls P f xs w fun e w' => ∃ r S' g', Q r S' ∧ N5 g' r e∧Inv S' g' w' ∧ Ext S g w S' g' w'
theorem fY.mono {P:Program}{f:FuncId}{args:List AV}{S:ag}{Q c:gL→ag→Prop}(h:fY P f args S Q)(d:∀ r S', Q r S' → c r S'):fY P f args S c:=
 fun g w xs hx hi=>(h g w xs hx hi).mono fun _ _ ⟨r,S', g', a,b⟩=>⟨r,S', g', d _ _ a,b⟩
def ae.back (F:ae)(o:Oper)(all:Array Oper)(rest:List Nat)(k:List bg):gL→ae
 | .ret v=>F.after o v all rest k
 | .wh l=>{ F with mode:=.panicking l }
variable {f : FuncId} {args : List AV}
theorem Reach.x9 {S:ag}{G:ae→ag→Prop}{rest:List Nat}{Q:gL→ag→Prop}(T:F.mode=.run)(U:F.todo=.ops all (i::rest)::k)(D:all[i]? = some o)(V:tx F all o=some true)(H:ct o.op=false)(ha:gJ P F.eval S o.op=some (.call f args))(W:fY P f args S Q)(h:∀ r S', Q r S' → Reach P (F.back o all rest k r) S' G):Reach P F S G:=by
 intro g w fr z cs hf I hi
 obtain⟨m,E,X⟩:=hf.split U D
 obtain⟨xs,Y,Z⟩:=kd hi (Ld.of hf) ha
 have t:=hf.runs T
 have s:=F6 (P:=P) (cs:=cs) (gQ t E D (lv hf V) (.inr H)) E Y
 obtain⟨e,w', A,⟨r,S', g', hq,b,J,hx⟩,j,_,n⟩:=W g w xs Z hi (fr::cs)
 have R:∀ p,step P (lone A (fr::cs) w')=.next (lone p cs w')→m8 P g' (F.back o all rest k r) p→Steps P (lone (Frame.enter P f xs .normal) (fr::cs) w) (lone A (fr::cs) w') →
     ∃ F' u q y B C,G F' u∧m8 P q F' B∧wZ q F' z C∧F'.kind=F.kind∧F'.fn=F.fn∧F'.round=F.round∧Inv u q y∧Ext S g w u q y∧Steps P (lone fr cs w) (lone B C y):=by
   intro p K L M
   have a:(F.back o all rest k r).kind=F.kind∧(F.back o all rest k r).fn=F.fn∧(F.back o all rest k r).round=F.round∧(F.back o all rest k r).cm=F.cm:=by
     cases r with
     | ret v=>exact F.iO o v all rest k
     | wh l=>exact⟨rfl,rfl,rfl,rfl⟩
   obtain⟨F2,S2,g2,w2,N,O,q', p1,p2,p3,p4,p5,p6,p7,p8⟩:=h r S' hq g' w' p z cs L ((I.mono hx.pc).congr a.1 a.2.2.2) J
   exact⟨F2,S2,g2,w2,N,O,q', p1,p2,p3.trans a.1,p4.trans a.2.1,p5.trans a.2.2.1,p6,hx.trans p7,Steps.head s (Steps.trans M (Steps.head K p8))⟩
 cases r with
 | ret v=>
   cases e with
   | returned x=>exact R _ (step_leave_returned n) ((hf.mono hx.pc).after E (X.mono hx.pc) D b) j
   | panicked c=>exact b.elim
   | outgrown=>exact b.elim
 | wh l=>
   cases e with
   | returned x=>exact b.elim
   | panicked c=>
     refine R _ (step_leave_panicked n) ?_ j
     have d:=hf.mono hx.pc
     have:fr.raise c={ fr with mode:=.panicking c }:=by simp[Frame.raise,t]
     rw[this]
     exact⟨d.fn,d.size,d.get,d.todo,d.defers,.panicking b,d.kind,d.round⟩
   | outgrown=>exact b.elim
end
noncomputable section
def wQ (P:Program)(F:ae)(S:ag):List ResultVar→Option (List AV)
 | []=>some []
 | .tmp t::r=>match F.get t with
   | some v=>match wQ P F S r with
     | some l=>some (v::l)
     | none=>none
   | none=>none
 | .cell a t::r=>match F.get a with
   | some p=>match ld S p with
     | some cs=>match um P t cs with
       | some v=>match wQ P F S r with
         | some l=>some (v::l)
         | none=>none
       | none=>none
     | none=>none
   | none=>none
def uQ (P:Program)(fn:Func)(F:ae)(S:ag):Option AV:=
 match wQ P F S fn.results.toList with
 | some [v]=>some v
 | some l=>some (.bO l)
 | none=>none
variable {P : Program} {F : ae} {S : ag} {g : Gh} {w : World} {fr : Frame}
theorem O1 (hf:m8 P g F fr)(hi:Inv S g w):∀ {d:List ResultVar} {l:List AV},wQ P F S d=some l →
   ∃ xs,(d.mapM (fun | .tmp t=>pure (fr.tmps.getD t undef) | .cell a t=>do loadVar t (←asAddr (fr.tmps.getD a undef))):Sem (List Value)).run P w=.ok xs w∧hM g l xs.toArray:=by
 intro d
 induction d with
 | nil=>simp_all[wQ,hM.nil]
 | cons r d q=>
   intro l h
   cases r with
   | tmp t=>
     simp only[wQ] at h
     split at h<;>try (simp at h;done)
     rename_i v i
     split at h<;>simp only[ba,reduceCtorEq] at h
     rename_i l' j
     subst h
     obtain⟨xs,s,u⟩:=q j
     obtain⟨x,z,k⟩:=hf.get t v i
     simp_all[hM.cons,undef,oc,List.mapM_cons,Sem.run_bind,Sem.run_pure,Result.andThen_ok]
   | cell a t=>
     simp only[wQ] at h
     split at h<;>try (simp at h;done)
     rename_i p A
     split at h<;>try (simp at h;done)
     rename_i cs e
     split at h<;>try (simp at h;done)
     rename_i v i
     split at h<;>simp only[ba,reduceCtorEq] at h
     rename_i l' j
     subst h
     obtain⟨xs,s,u⟩:=q j
     obtain⟨x,z,k⟩:=hf.get a p A
     obtain⟨y,B,C⟩:=Bc (P:=P) hi e i k
     obtain⟨b,o,c,D,fz,rfl,_,_⟩:=xO hi e k
     refine⟨y::xs,?_,hM.cons C u⟩
     have:fr.tmps.getD a undef=.pointer (some ⟨b,o,none⟩):=by simp[oc,z]
     have n:(loadVar t ⟨b,o,none⟩).run P w=.ok y w:=by simpa [Instr.loadAt,Instr.sureAddr] using B
     have ha:(asAddr (fr.tmps.getD a undef)).run P w=.ok ⟨b,o,none⟩ w:=by rw[this];rfl
     simp only[List.mapM_cons,Sem.run_bind,ha,Sem.run_pure,Result.andThen_ok,n]
     rw[s];simp
variable {fn : Func}
theorem Dp (hf:m8 P g F fr)(hi:Inv S g w){v:AV}(h:uQ P fn F S=some v):∃ x,(results fn fr.tmps).run P w=.ok x w∧VR g v x:=by
 unfold uQ at h
 have n:∀ l,wQ P F S fn.results.toList=some l→∃ xs:List Value,(results fn fr.tmps).run P w=.ok (if h:xs.toArray.size=1 then xs.toArray[0] else .tuple xs.toArray) w∧hM g l xs.toArray:=by
   intro l e
   obtain⟨xs,i,d⟩:=O1 hf hi e
   refine⟨xs,?_,d⟩
   simp only[results,Sem.run_bind]
   rw[Array.mapM_eq_mapM_toList]
   simp only[Sem.run_map]
   refine(congrArg (fun r=>Result.andThen (Result.andThen r fun a w' => Result.ok a.toArray w') fun a w' => Sem.run P (pure (if h:a.size=1 then a[0] else Value.tuple a)) w') i).trans ?_
   simp
 split at h
 · rename_i v' e
   simp only[ba] at h;subst h
   obtain⟨xs,i,d⟩:=n _ e
   obtain⟨x,o,p⟩:=d.get (k:=0) rfl
   have hs:xs.toArray.size=1:=d.1.symm
   simp_all
 · rename_i l j e
   simp only[ba] at h;subst h
   obtain⟨xs,i,d⟩:=n _ e
   have hs:¬ xs.toArray.size=1:=by
    intro hs
    have h1:=d.1
    rw[hs] at h1
    match l,h1 with
    | [v],_=>exact j v rfl
   exact⟨_,by rw[i,dif_neg hs],.bO d.1 d.2⟩
 · simp at h
def Tm : Nat→List AV→List (Nat×AV)
 | _,[]=>[]
 | n,v::l=>(n,v)::Tm (n+1) l
theorem Yf (l:List AV):∀(n t:Nat),lk (Tm n l) t=if n≤t then l[t-n]? else none:=by
 induction l with
 | nil=>intro n t;simp[Tm,q7]
 | cons v l d=>
   intro n t
   simp only[Tm,iz]
   cases hb:Nat.beq n t with
   | true=>
     simp_all
   | false=>
     have i:n≠t:=by intro e;simp_all
     simp only[d]
     by_cases h:n≤t
     · rw[if_pos h,if_pos (by omega),show t-n=(t-(n+1))+1 from by omega,q8]
     · rw[if_neg h,if_neg (by omega)]
def ae.enter (f n mask:Nat)(c:Code)(args:List AV)(kind:CallKind)(cm:dr):ae:=
 { fn:=f,n:=max args.length n,mask:=mask,loc:=[],qX:=Tm 0 args,todo:=[.code c],defers:=[],mode:=.run,kind:=kind,cm:=cm,round:=none }
theorem m8.enter {P:Program}{g:Gh}{f:FuncId}{fn:Func}{c:Code}{args:List AV}{xs:Array Value}{kind:CallKind}{cm:dr}{mask:Nat}(hf:P.funcs[f]? = some fn)(hb:fn.body=some c)(hx:hM g args xs) :
   m8 P g (ae.enter f fn.ntmps mask c args kind cm) (Frame.enter P f xs kind):=by
 refine⟨rfl,?_,?_,?_,.nil,.run,rfl,trivial⟩
 · have:=hx.1
   simp[Frame.enter,hf,ae.enter];omega
 · intro t v e
   simp only[ae.get,ae.enter] at e
   split at e
   · rw[Yf] at e
     simp only[bU,if_true,Nat.sub_zero] at e
     obtain⟨x,d,h⟩:=hx.get e
     refine⟨x,?_,h⟩
     simp only[Frame.enter]
     rw[Jv (y8.1 d).1]
     exact d
   · simp[q7] at e
 · simp only[ae.enter,Frame.enter,hf,ax,hb,xm]
   exact .cons .code .nil
def Fin (P:Program)(fn:Func)(Q:gL→dr→ag→Prop)(F:ae)(S:ag):Prop:=
 F.defers=[]∧((F.mode=.returning∧∃ v,uQ P fn F S=some v∧Q (.ret v) F.cm S)∨∃ l,F.mode=.panicking l∧Q (.wh l) F.cm S)
theorem kZ.JA {m:List Deferred}(h:kZ P g [] m):m=[]:=by
 cases h;rfl
variable {f : FuncId} {c : Code} {args : List AV}
theorem fY.qu {Q:gL→ag→Prop}(mask:Nat)(hf:P.funcs[f]? = some fn)(hb:fn.body=some c)(h:Reach P (ae.enter f fn.ntmps mask c args .normal .run) S (Fin P fn fun r _ o=>Q r o)):fY P f args S Q:=by
 intro g w xs hx hi cs
 obtain⟨F', o,g', w', e,u,⟨E,H⟩,k,p,I,J,O,q,B,C⟩:=h g w (Frame.enter P f xs .normal) cs cs (m8.enter hf hb hx) (by simp[wZ,ae.enter]) hi
 have D:F'.kind=.normal:=I
 have y:u=cs:=by unfold wZ at p;rw[D] at p;exact p
 subst y
 have i:e.fn=f:=k.fn.trans J
 have n:e.defers=[]:=by have:=k.defers;rw[E] at this;exact this.JA
 have z:e.kind=.normal:=k.kind.trans D
 have d:=k.mode
 rcases H with⟨s,v,K,t⟩ | ⟨l,s,t⟩
 · rw[s] at d
   obtain⟨x,L,M⟩:=Dp k q K
   have j:e.mode=.returning:=by generalize e.mode=N at d ⊢;cases d;rfl
   exact⟨.returned x,w', e,⟨.ret v,o,g', t,M,q,B⟩,C,i,j,n,z,fn,by rw[i];exact hf,L⟩
 · rw[s] at d
   obtain⟨m,j,A⟩:∃ m,e.mode=.panicking m∧ia g' l m:=by generalize e.mode=N at d ⊢;cases d with | panicking h=>exact⟨_,rfl,h⟩
   exact⟨.panicked m,w', e,⟨.wh l,o,g', t,A,q,B⟩,C,i,j,n,fn,by rw[i];exact hf⟩
def ajZ (P:Program)(f:FuncId)(args:List AV)(S:ag)(cm:dr)(Q:gL→dr→ag→Prop):Prop:=
 ∀ (g:Gh) (w:World) (xs:Array Value) (u:FrameMode),hM g args xs→Inv S g w→mT g cm u →
  CallsD P f xs u w fun e i w' => ∃ r d h g', Q r d h∧N5 g' r e∧mT g' d i∧Inv h g' w' ∧ Ext S g w h g' w'
variable {Q : gL → dr → ag → Prop}
theorem ajZ.qu {cm:dr}(mask:Nat)(hf:P.funcs[f]? = some fn)(hb:fn.body=some c)(h:Reach P (ae.enter f fn.ntmps mask c args .deferred cm) S (Fin P fn Q)):ajZ P f args S cm Q:=by
 intro g w xs u hx hi hu c0 cs t
 obtain ⟨F', z,g', w', e,R,⟨E,H⟩,j,p,I,J,T,q,A,B⟩:=h g w (Frame.enter P f xs .deferred) (c0::cs) (c0::cs) (m8.enter hf hb hx)
   (by simp only[wZ,ae.enter];exact⟨c0,cs,u,rfl,by subst t;rfl,hu⟩) hi
 have C:F'.kind=.deferred:=I
 unfold wZ at p
 rw[C] at p
 obtain⟨c1,rest,m,D,q2,q3⟩:=p
 simp only[List.cons.injEq] at D
 obtain⟨rfl,rfl⟩:=D
 subst q2
 have k:e.fn=f:=j.fn.trans J
 have n:e.defers=[]:=by have:=j.defers;rw[E] at this;exact this.JA
 have o:e.kind=.deferred:=j.kind.trans C
 have d:=j.mode
 rcases H with⟨r,v,K,s⟩ | ⟨l,r,s⟩
 · rw[r] at d
   obtain⟨x,L,M⟩:=Dp j q K
   have i:e.mode=.returning:=by generalize e.mode=N at d ⊢;cases d;rfl
   exact⟨.returned x,m,w', e,⟨.ret v,F'.cm,z,g', s,M,q3,q,A⟩,B,o,i,n,fn,by rw[k];exact hf,L⟩
 · rw[r] at d
   obtain⟨O,i,y⟩:∃ m,e.mode=.panicking m∧ia g' l m:=by generalize e.mode=N at d ⊢;cases d with | panicking h=>exact⟨_,rfl,h⟩
   exact⟨.panicked O,m,w', e,⟨.wh l,F'.cm,z,g', s,y,q3,q,A⟩,B,o,i,n,fn,by rw[k];exact hf⟩
def Ay : dr→dr
 | .panicking ((_,true)::_)=>.returning
 | m=>m
def Az (u:dr)(chain:List (AV×Bool)):dr:=
 match u with
 | .panicking wY=>.panicking (chain++wY)
 | _=>.panicking chain
variable {l : List (AV × Bool)} {m : List PanicEntry}
theorem ia.aed (h:ia g l m):m.dropWhile (!·.goexit)=[]:=by
 induction h<;>simp_all
variable {a : dr} {b : FrameMode}
theorem Hz (h:mT g a b):mT g (Ay a) (settle b):=by
 cases h with
 | run=>exact .run
 | returning=>exact .returning
 | panicking h=>
   cases h with
   | nil=>exact .panicking .nil
   | cons e d=>
     rename_i v x b l m
     cases b with
     | true=>simp only[Ay,settle,d.aed];exact .returning
     | false=>exact .panicking (.cons e d)
theorem ia.append {l' : List (AV×Bool)}{d:List PanicEntry}(h:ia g l m)(e:ia g l' d):ia g (l++l') (m++d):=by
 induction h with
 | nil=>exact e
 | cons i _ j=>exact .cons i j
theorem HA (h:mT g a b)(d:ia g l m):mT g (Az a l) (raised b m):=by
 cases h with
 | run=>exact .panicking d
 | returning=>exact .panicking d
 | panicking h=>exact .panicking (d.append h)
def jd (r:gL)(cm:dr):dr:=
 match r with
 | .ret _=>Ay cm
 | .wh l=>Az cm l
variable {G : ae → ag → Prop}
theorem Reach.unwind {cap:List AV}{ds:List hU}(Z:F.mode ≠ .run)(hd:F.defers=.call f cap args::ds)(hc:ajZ P f (args++cap) S F.mode Q)(h:∀ r cm H,Q r cm H→Reach P { F with defers:=ds,mode:=jd r cm } H G):Reach P F S G:=by
 intro g w fr y cs hf I hi
 have n:=hf.defers
 rw[hd] at n
 generalize J:fr.defers=fd at n
 cases n with | cons E t X ht=>?_
 rename_i ys xs m
 have K:fr.mode ≠ .run:=by
   intro e
   have:=hf.mode
   rw[e] at this
   generalize L:F.mode=u at this
   cases this
   exact Z L
 have h1:=step_defer (P:=P) (cs:=cs) (w:=w) (args:=xs++ys) (f:=f) K J rfl (by simp_all[invoke,mW])
 obtain⟨e,Y,w', z,⟨r,o,H,g', hq,i,A,M,hx⟩,d,N,B⟩:=hc g w (xs++ys) fr.mode (hM.append t E) hi hf.mode { fr with defers:=m } cs rfl
 obtain⟨c2,p⟩:∃ c:Frame,c={ { fr with defers:=m } with mode:=Y }:=⟨_,rfl⟩
 rw[←p] at d
 have fin:∀ u,step P (lone z (c2::cs) w')=.next (lone { c2 with mode:=u } cs w')→mT g' (jd r o) u →
    Steps P (lone (Frame.enter P f (xs++ys) .deferred) ({ fr with defers:=m }::cs) w) (lone z (c2::cs) w') →
    ∃ F' q k s C D,G F' q∧m8 P k F' C∧wZ k F' y D∧F'.kind=F.kind∧F'.fn=F.fn∧F'.round=F.round∧Inv q k s∧Ext S g w q k s∧Steps P (lone fr cs w) (lone C D s):=by
   intro u O R T
   have j:=hf.mono hx.pc
   have U:m8 P g' { F with defers:=ds,mode:=jd r o } { c2 with mode:=u }:=by
    subst p
    exact⟨j.fn,j.size,j.get,j.todo,ht.mono hx.pc,R,j.kind,j.round⟩
   obtain⟨F2,S2,g2,w2,V,W,q', p1,p2,p3,p4,p5,p6,p7,p8⟩:=h r o H hq g' w' { c2 with mode:=u } y cs U ((I.mono hx.pc).congr rfl rfl) M
   exact⟨F2,S2,g2,w2,V,W,q', p1,p2,p3,p4,p5,p6,hx.trans p7,Steps.head h1 (Steps.trans T (Steps.head O p8))⟩
 have hu:c2.mode=Y:=by rw[p]
 cases r with
 | ret v=>
   cases e with
   | returned x=>exact fin _ (step_going_returned N B) (by rw[hu];exact Hz A) d
   | panicked c=>exact i.elim
   | outgrown=>exact i.elim
 | wh l=>
   cases e with
   | returned x=>exact i.elim
   | panicked c=>exact fin _ (step_going_panicked B) (by rw[hu];exact HA A i) d
   | outgrown=>exact i.elim
def uU : dr→Option (AV×dr)
 | .panicking ((v,false)::d)=>some (v,.panicking ((v,true)::d))
 | _=>none
theorem Reach.Uv {all:Array Oper}{i:Nat}{rest:List Nat}{k:List bg}{o:Oper}(hm:F.mode=.run)(ht:F.todo=.ops all (i::rest)::k)(H:all[i]? = some o)(hg:tx F all o=some true)(I:F.kind=.deferred)(hr:F.round=none)(ha:gJ P F.eval S o.op=some .ae7)(h:Reach P (match uU F.cm with
    | some (v,cm)=>{ F.after o v all rest k with cm:=cm }
    | none=>F.after o (.sc .nilIface) all rest k) S G):Reach P F S G:=by
 intro g w fr B cs hf n hi
 obtain⟨m,J,e2⟩:=hf.split ht H
 have r1:(execOp fr.eval o).run P w=.ok .recover w:=kd hi (Ld.of hf) ha
 have E:=hf.runs hm
 have q:=hf.JQ hr
 have hs:=gQ (P:=P) (cs:=cs) (w:=w) E J H (lv hf hg) (.inl q)
 have hkd:fr.kind=.deferred:=hf.kind.trans I
 have C:=tryRecover_deferred hkd cs
 unfold wZ at n
 rw[I] at n
 obtain⟨c0,e,z,q1,q2,q3⟩:=n
 have jr:=fun v=>F.iO o v all rest k
 cases d:uU F.cm with
 | some p=>
   obtain⟨v,cm⟩:=p
   rw[d] at h
   simp only at h
   unfold uU at d
   split at d<;>simp only[ba,lR,reduceCtorEq] at d
   rename_i v' A hcm
   obtain⟨rfl,rfl⟩:=d
   rw[hcm] at q3
   cases q3 with | panicking r=>?_
   cases r with | cons K D=>?_
   rename_i x L
   have s:recoverD cs=some (x,{ c0 with mode:=.panicking ({ v:=x,recovered:=true }::L) }::e):=by rw[q2];rfl
   have t:step P (lone fr cs w)=.next (lone (fr.finish x) ({ c0 with mode:=.panicking ({ v:=x,recovered:=true }::L) }::e) w):=by
    refine step_lone_go ?_
    rw[hs];simp[stepG.apply,r1,q,C,s]
   have j:=hf.after (v:=v') J e2 H K
   obtain ⟨F2,M,N,O,u,y,R,T,U,V,W,X,Y,Z,p8⟩:=h g w (fr.finish x) B ({ c0 with mode:=.panicking ({ v:=x,recovered:=true }::L) }::e)
    ⟨j.fn,j.size,j.get,j.todo,j.defers,j.mode,j.kind,j.round⟩
    (by unfold wZ;rw[show({ F.after o v' all rest k with cm:=dr.panicking ((v', true)::A) }:ae).kind=.deferred from(jr v').1.trans I];exact⟨c0,e,_,q1,rfl,.panicking (.cons K D)⟩) hi
   exact⟨F2,M,N,O,u,y,R,T,U,V.trans (jr v').1,W.trans (jr v').2.1,X.trans (jr v').2.2.1,Y,Z,Steps.head t p8⟩
 | none=>
   rw[d] at h
   simp only at h
   have s:recoverD cs=none:=by
    rw[q2]
    simp only[recoverD]
    generalize F.cm=acm at q3 d
    cases q3 with
    | run=>rfl
    | returning=>rfl
    | panicking r=>
      cases r with
      | nil=>rfl
      | cons K D=>
        rename_i v x b l m
        cases b with
        | false=>simp[uU] at d
        | true=>rfl
   have t:step P (lone fr cs w)=.next (lone (fr.finish .nilIface) cs w):=by
    refine step_lone_go ?_
    rw[hs];simp[stepG.apply,r1,q,C,s]
   have j:=hf.after (v:=.sc .nilIface) (x:=.nilIface) J e2 H (.sc rfl)
   obtain ⟨F2,M,N,O,u,y,R,T,U,V,W,X,Y,Z,p8⟩:=h g w (fr.finish .nilIface) B cs j
    (by unfold wZ;rw[(jr (.sc .nilIface)).1.trans I,(jr (.sc .nilIface)).2.2.2];exact⟨c0,e,z,q1,q2,q3⟩) hi
   exact⟨F2,M,N,O,u,y,R,T,U,V.trans (jr _).1,W.trans (jr _).2.1,X.trans (jr _).2.2.1,Y,Z,Steps.head t p8⟩
end
noncomputable section
def Gh.cut (g:Gh)(n:Nat):Gh:={ ro:=g.ro,ph:=fun id=>if id<n then g.ph id else none }
variable {g : Gh} {n id : Nat} {l : Loc}
theorem Gh.ka (h:(g.cut n).ph id=some l):id<n∧g.ph id=some l:=by
 simp_all[Gh.cut]
theorem Gh.Ol (a:id<n)(h:g.ph id=some l):(g.cut n).ph id=some l:=by simp[Gh.cut,a,h]
theorem Gh.FB (g:Gh)(n:Nat):Gh.le (g.cut n) g:=⟨fun _ _ e=>e,fun _ _ e=>(Gh.ka e).2⟩
theorem Gh.JR {g' : Gh}(h:Gh.le g g'){m:Nat}(c:n≤m):Gh.le (g.cut n) (g'.cut m):=
 ⟨h.ro,fun _ _ e=>let ⟨a,b⟩:=Gh.ka e;Gh.Ol (mJ a c) (h.ph _ _ b)⟩
def n7 (P:Program)(all:Array Oper)(o:Oper)(get:Nat→Option AV)(E:ag)(v:AV)(E' : ag):Prop:=
 ∀ (g:Gh) (w:World) (fr:Frame) (cs:List Frame) (i:Nat) (rest:List Nat) (m:List Item),fr.mode=.run→fr.todo=.inRegion all (i::rest)::m→all[i]? = some o →
  (∀ t,t∈o.looksAt all→∀ u,get t=some u→∃ x,fr.tmps[t]? = some x∧VR g u x)→Inv E g w →
  ∃ w' g' x,Steps P (lone fr cs w) (lone (fr.finish x) cs w')∧VR g' v x∧Inv E' g' w' ∧ Ext E g w E' g' w'
section
variable (ops : Array Oper) (F : ae) (S : ag) (pm : Nat → Nat → Bool) (E E' : Nat → ag) (v : Nat → AV) (ch : Nat → Nat → Option (Option aO))
def nn : Nat→Nat
 | 0=>S.nx
 | i+1=>(E' i).nx
def tF (i:Nat):Option Tmp:=match ops[i]? with
 | some o=>o.dst
 | none=>none
def sv (X:Nat→Bool):Nat→Nat→Option (AV×Nat)
 | 0,t=>match F.get t with
   | some u=>some (u,S.nx)
   | none=>none
 | m+1,t=>if X m=true∧tF ops m=some t∧t<F.n then some (v m,nn S E' (m+1)) else sv X m t
def ov (X:Nat→Bool):Nat→Nat→Option (aO×Nat)
 | 0,id=>match S.get id with
   | some o=>some (o,S.nx)
   | none=>none
 | m+1,id=>if X m=true then match ch m id with
   | some (some o)=>some (o,nn S E' (m+1))
   | some none=>none
   | none=>ov X m id else ov X m id
structure DP (P : Program) (i0 n : Nat) : Prop where
 ae9 : ∀ i, i < n → (E i).nx = nn S E' i
 mono : ∀ i, i < n → (E i).nx ≤ (E' i).nx
 lim : ∀ i, i < n → S.lim ≤ (E i).lim
 aky : ∀ i, i < n → ∀ id o, (E i).get id = some o → ∃ st, ov S E' ch (pm i) i id = some (o, st)
 Om : ∀ i, i < n → ∀ j, j < i → pm i j = false → ∀ id, ch j id ≠ none → (E i).get id = none
 Uw : ∀ i, i < n → ∀ j, j < n → i < j → pm j i = false → ∀ id, ch j id ≠ none → id < (E j).nx → (E i).get id = none
 asL : ∀ i, i < n → ∀ id o, ch i id = some (some o) → (E' i).get id = some o
 asM : ∀ i, i < n → ∀ id o, (E i).get id = some o → (E i).lim ≤ id → ch i id ≠ none
 afw : ∀ i, i < n → ∀ id, ch i id ≠ none → (E i).lim ≤ id ∧ id < (E' i).nx
 akz : ∀ i, i < n → ∀ id, ch i id ≠ none → (E i).get id ≠ none ∨ (E i).nx ≤ id
 op : ∀ i, i0 ≤ i → i < n → ∃ o, ops[i]? = some o ∧ n7 P ops o (fun t => match sv ops F S E' v (fun _ => true) i t with
  | some (u, _) => some u
  | none => none) (E i) (v i) (E' i)
structure DJ (X : Nat → Bool) (n : Nat) (g0 : Gh) (w0 : World) (fr0 : Frame) (g : Gh) (w : World) (fr : Frame) : Prop where
 wu : ∀ t u st, sv ops F S E' v X n t = some (u, st) → ∃ x, fr.tmps[t]? = some x ∧ VR (g.cut st) u x
 ob : ∀ id o st, ov S E' ch X n id = some (o, st) → ∃ l, (g.cut st).ph id = some l ∧ g.ro l.cU = none ∧ wX (g.cut st) l w.heap[l.cU]? o
 inj : ∀ id id' o o' st st' l l', ov S E' ch X n id = some (o, st) → ov S E' ch X n id' = some (o', st') → g.ph id = some l → g.ph id' = some l' → l.cU = l'.cU → id = id'
 ro : ∀ b c, g.ro b = some c → ∃ t fz, w.heap[b]? = some (.cells c t fz)
 afx : ∀ id l, g.ph id = some l → id < S.nx ∨ ∃ j, j < n ∧ X j = true ∧ nn S E' j ≤ id ∧ id < nn S E' (j + 1)
 size : w0.heap.size ≤ w.heap.size
 os : w.os = w0.os
 tape : Lg w w0
 output : w.output = w0.output
 jr : ∀ b, b < w0.heap.size → (∀ id o l, S.get id = some o → S.lim ≤ id → g0.ph id = some l → l.cU ≠ b) → w.heap[b]? = w0.heap[b]?
 own : ∀ id o st l, ov S E' ch X n id = some (o, st) → S.lim ≤ id → g.ph id = some l → l.cU < w0.heap.size → ∃ id0 o0 l0, S.get id0 = some o0 ∧ S.lim ≤ id0 ∧ g0.ph id0 = some l0 ∧ l0.cU = l.cU
 pc : Gh.le g0 g
 wY : ∀ id, id < S.nx → g.ph id = g0.ph id
 C2 : ∀ b c, g.ro b = some c → b < w0.heap.size → g0.ro b = some c ∨ ∃ id0 o0 l0, S.get id0 = some o0 ∧ S.lim ≤ id0 ∧ g0.ph id0 = some l0 ∧ l0.cU = b
 fz : ∀ a, a.block < w0.heap.size → w.frozen? a = w0.frozen? a
 LC : fr.tmps.size = F.n
 frame : fr = { fr0 with tmps := fr.tmps, todo := fr.todo }
end
section
variable {ops : Array Oper} {F : ae} {S : ag} {pm : Nat → Nat → Bool} {E E' : Nat → ag} {v : Nat → AV} {ch : Nat → Nat → Option (Option aO)}
def An (X:Nat→Bool)(i:Nat):Nat→Bool:=fun j=>if j=i then true else X j
variable {P : Program} {i0 i j : Nat}
theorem nb (h:DP ops F S pm E E' v ch P i0 n)(b:i≤j)(c:j≤n):nn S E' i≤nn S E' j:=by
 induction j with
 | zero=>simp_all
 | succ j a=>
   by_cases e:i=j+1
   · simp_all
   · have h1:=a (by omega) (by omega)
     have h2:=h.mono j (by omega)
     rw[h.ae9 j (by omega)] at h2
     exact lH h1 h2
variable {X : Nat → Bool}
theorem Vb (h:DP ops F S pm E E' v ch P i0 n):∀ {m:Nat},m≤n→∀ {t u st},sv ops F S E' v X m t=some (u,st)→st≤nn S E' m:=by
 intro m
 induction m with
 | zero=>
   intro _ t u st e
   simp only[sv] at e
   split at e<;>simp only[ba,lR,reduceCtorEq] at e
   rw[←e.2];exact bJ _
 | succ m a=>
   intro b t u st e
   simp only[sv] at e
   split at e
   · simp_all
   · exact lH (a (by omega) e) (nb h (by omega) b)
theorem LS (h:DP ops F S pm E E' v ch P i0 n):∀ {m:Nat},m≤n→∀ {id o st},ov S E' ch X m id=some (o,st)→st≤nn S E' m:=by
 intro m
 induction m with
 | zero=>
   intro _ t u st e
   simp only[ov] at e
   split at e<;>simp only[ba,lR,reduceCtorEq] at e
   rw[←e.2];exact bJ _
 | succ m a=>
   intro b t u st e
   have up:∀ {x},x≤nn S E' m→x≤nn S E' (m+1):=fun hx=>lH hx (nb h (by omega) b)
   simp only[ov] at e
   split at e
   · split at e
     · simp_all
     · simp at e
     · exact up (a (by omega) e)
   · exact up (a (by omega) e)
theorem Zq (h:DP ops F S pm E E' v ch P i0 n)(c:∀ id o,S.get id=some o→id<S.nx):∀ {m:Nat},m≤n→∀ {id o st},ov S E' ch X m id=some (o,st)→id<st:=by
 intro m
 induction m with
 | zero=>
   intro _ id o st e
   simp only[ov] at e
   split at e<;>simp only[ba,lR,reduceCtorEq] at e
   simp_all
 | succ m a=>
   intro d id o st e
   simp only[ov] at e
   split at e
   · split at e
     · rename_i o' b
       simp only[ba,lR] at e
       rw[←e.2];exact(h.afw m (by omega) id (by rw[b];simp)).2
     · simp at e
     · exact a (by omega) e
   · exact a (by omega) e
theorem Yg (h:DP ops F S pm E E' v ch P i0 n):∀ {m:Nat},m≤n→id<S.nx→S.get id=none→∀ {X:Nat→Bool},ov S E' ch X m id=none:=by
 intro m
 induction m with
 | zero=>simp_all[ov]
 | succ m b=>
   intro d bE e X
   simp only[ov]
   have hi:=@b (by omega) bE e
   split
   · cases c:ch m id with
     | none=>exact hi
     | some r=>
       exfalso
       rcases h.akz m (by omega) id (by rw[c];simp) with q | q
       · cases a:(E m).get id with
         | none=>exact q a
         | some o=>
           obtain⟨st,f⟩:=h.aky m (by omega) id o a
           simp_all
       · rw[h.ae9 m (by omega)] at q
         have k:=nb h (bU m) (by omega)
         have:nn S E' 0=S.nx:=rfl
         omega
   · exact hi
variable {Y : Nat → Bool} {t : Nat}
theorem FL : ∀ {m:Nat},(∀ j,j<m→tF ops j=some t→X j=Y j)→sv ops F S E' v X m t=sv ops F S E' v Y m t:=by
 intro m
 induction m with
 | zero=>intro _;rfl
 | succ m a=>
   intro h
   simp only[sv]
   by_cases b:tF ops m=some t
   · rw[h m (by omega) b,a fun j c=>h j (by omega)]
   · simp only[b,false_and,and_false,if_false];exact a fun j c=>h j (by omega)
theorem AR : ∀ {m:Nat},(∀ j,j<m→ch j id≠none→X j=Y j)→ov S E' ch X m id=ov S E' ch Y m id:=by
 intro m
 induction m with
 | zero=>intro _;rfl
 | succ m a=>
   intro h
   simp only[ov]
   by_cases b:ch m id=none
   · simp only[b,ite_self];exact a fun j c=>h j (by omega)
   · rw[h m (by omega) b,a fun j c=>h j (by omega)]
theorem T2 : ∀ {m:Nat},i≤m→(∀ j,i≤j→j<m→X j=true→tF ops j≠some t)→sv ops F S E' v X m t=sv ops F S E' v X i t:=by
 intro m
 induction m with
 | zero=>simp_all
 | succ m c=>
   intro hi h
   by_cases e:i=m+1
   · subst e;rfl
   · simp only[sv]
     rw[if_neg]
     · exact c (by omega) fun j a b=>h j a (by omega)
     · rintro⟨a,b,_⟩;exact h m (by omega) (by omega) a b
theorem LD : ∀ {m:Nat},i≤m→(∀ j,i≤j→j<m→X j=true→ch j id=none)→ov S E' ch X m id=ov S E' ch X i id:=by
 intro m
 induction m with
 | zero=>simp_all
 | succ m c=>
   intro hi h
   by_cases e:i=m+1
   · subst e;rfl
   · simp only[ov]
     split
     · rename_i a
       rw[h m (by omega) (by omega) a]
       exact c (by omega) fun j a b=>h j a (by omega)
     · exact c (by omega) fun j a b=>h j a (by omega)
theorem aee (a:¬ t<F.n):∀ {m:Nat},sv ops F S E' v X m t=sv ops F S E' v Y m t:=by
 intro m
 induction m with
 | zero=>rfl
 | succ m b=>simp only[sv,a,and_false,if_false];exact b
theorem pB (X:Nat→Bool)(i:Nat):An X i i=true:=by simp[An]
theorem nc (X:Nat→Bool)(h:j≠i):An X i j=X j:=by simp[An,h]
variable {g0 : Gh} {w0 w : World} {fr0 fr : Frame} {cs : List Frame} {m : List Item}
theorem DJ.step (h:DP ops F S pm E E' v ch P i0 n)(hn:n≤ops.size)(hap:∀ i j oi oj,i<n→j<i→pm i j=false→ops[i]? = some oi→ops[j]? = some oj→oi.apart ops oj=true)(hS:∀ id o,S.get id=some o→id<S.nx)(z:DJ ops F S E' v ch X n g0 w0 fr0 g w fr)(hi0:i0≤i)(hi:i<n)(hX:X i=false)(hcl:∀ j,X j=true→j<n∧∀ k,pm j k=true→X k=true)(hrd:∀ j,pm i j=true→X j=true){rest:List Nat}(hmode:fr0.mode=.run)(ht:fr.todo=.inRegion ops (i::rest)::m) :
   ∃ fr' w' g', Steps P (lone fr cs w) (lone fr' cs w')∧fr'.todo=.inRegion ops rest::m∧DJ ops F S E' v ch (An X i) n g0 w0 fr0 g' w' fr' := by
 obtain⟨o,ho,hop⟩:=h.op i hi0 hi
 have hin:nn S E' i≤nn S E' (i+1):=nb h (by omega) (by omega)
 have hX' : ∀ j,X j=true→j≠i∧pm j i=false:=by
   intro j a
   refine⟨fun e=>(by subst e;rw[hX] at a;simp at a),?_⟩
   cases e:pm j i with
   | false=>rfl
   | true=>rw[(hcl j a).2 i e] at hX;simp at hX
 have mdE:∀ j,j<n→∃ oj,ops[j]? = some oj:=fun j z=>⟨_,Ak (mJ z hn)⟩
 have hslot:∀ t,t∈o.looksAt ops→sv ops F S E' v X n t=sv ops F S E' v (fun _=>true) i t:=by
   intro t hlk
   rw[T2 (i:=i) (by omega)]
   · refine FL fun j hji hd=>?_
     cases e:pm i j with
     | true=>exact hrd j e
     | false=>
       obtain⟨oj,N⟩:=mdE j (by omega)
       have hd' : oj.dst=some t:=by simpa [tF,N] using hd
       exact absurd hlk ((Oper.apart_spec (hap i j o oj hi hji e ho N)).2.2 t hd')
   · intro j hij C J hd
     have G:=hX' j J
     have D:i<j:=by omega
     obtain⟨oj,N⟩:=mdE j C
     have hd' : oj.dst=some t:=by simpa [tF,N] using hd
     exact absurd hlk ((Oper.apart_spec (hap j i oj o C D G.2 N ho)).1 t hd')
 have W:∀ id ob,(E i).get id=some ob→∃ st,ov S E' ch X n id=some (ob,st)∧st≤nn S E' i:=by
   intro id ob e
   obtain⟨st,M⟩:=h.aky i hi id ob e
   have hst:=LS h (by omega:i≤n) M
   have hidst:=Zq h hS (by omega:i≤n) M
   refine⟨st,?_,hst⟩
   rw[←M,LD (i:=i) (by omega)]
   · refine AR fun j hji I=>?_
     cases e' : pm i j with
     | true=>exact hrd j e'
     | false=>exact absurd (h.Om i hi j hji e' id I) (by rw[e];simp)
   · intro j hij C J
     have G:=hX' j J
     have D:i<j:=by omega
     cases I:ch j id with
     | none=>rfl
     | some r=>
       exfalso
       have BS:id<(E j).nx:=by
         rw[h.ae9 j C]
         have:=nb h (show i≤j by omega) (by omega)
         omega
       have:=h.Uw i hi j C D G.2 id (by rw[I];simp) BS
       rw[this] at e;simp at e
 have hnxi:=h.ae9 i hi
 have hinv:Inv (E i) (g.cut (nn S E' i)) w:=by
   refine⟨z.ro,?_,?_,?_⟩
   · intro id ob e
     obtain⟨st,M,e2⟩:=W id ob e
     obtain⟨l,a,b,c⟩:=z.ob id ob st M
     have hm:=Gh.JR (Gh.le_refl g) e2
     exact⟨l,hm.ph _ _ a,b,c.mono hm⟩
   · intro id id' o1 o2 l l' e e' p p' hb
     obtain⟨st,M,_⟩:=W id o1 e
     obtain⟨st', e1', _⟩:=W id' o2 e'
     exact z.inj id id' o1 o2 st st' l l' M e1' (Gh.ka p).2 (Gh.ka p').2 hb
   · intro id bE
     rw[hnxi] at bE
     simp[Gh.cut,show ¬ id<nn S E' i by omega]
 have hmd:fr.mode=.run:=by rw[z.frame];exact hmode
 obtain ⟨w', g1,x,hs,hv,O,hx⟩:=hop (g.cut (nn S E' i)) w fr cs i rest m hmd ht ho (by
   intro t hlk u e
   simp only[←hslot t hlk] at e
   split at e<;>simp only[ba,reduceCtorEq] at e
   rename_i u' st e'
   subst e
   obtain⟨x,M,e2⟩:=z.wu t _ st e'
   refine⟨x,M,e2.mono (Gh.JR (Gh.le_refl g) ?_)⟩
   rw[hslot t hlk] at e'
   exact Vb h (by omega) e') hinv
 have K:∀ {a b},a≤b→b≤n→nn S E' a≤nn S E' b:=fun hab hb=>nb h hab hb
 have hnx0:S.nx≤nn S E' i:=by have:=K (show 0≤i by omega) (by omega);exact this
 obtain⟨gn,hgn⟩:∃ k:Gh,k={ ro:=g1.ro,ph:=fun id=>if nn S E' i≤id∧id<nn S E' (i+1) then g1.ph id else g.ph id }:=⟨_,rfl⟩
 have H:gn.ro=g1.ro:=by rw[hgn]
 have hgin:∀ {id},nn S E' i≤id→id<nn S E' (i+1)→gn.ph id=g1.ph id:=by intro id a b;rw[hgn];simp[a,b]
 have L:∀ {id},¬ (nn S E' i≤id∧id<nn S E' (i+1))→gn.ph id=g.ph id:=by intro id a;rw[hgn];simp[a]
 have hle:Gh.le g gn:=by
   refine⟨fun b c e=>by rw[H];exact hx.pc.ro b c e,fun id l e=>?_⟩
   rw[L]
   · exact e
   · rintro⟨a,b⟩
     rcases z.afx id l e with q | ⟨j,q1,q2,q3,q4⟩
     · omega
     · have G:=(hX' j q2).1
       rcases jT j i with k | k
       · have:=K (show j+1≤i by omega) (by omega);omega
       · have:=K (show i+1≤j by omega) (by omega);omega
 have R:Gh.le g1 (gn.cut (nn S E' (i+1))):=by
   refine⟨fun b c e=>by show gn.ro b=some c;rw[H];exact e,fun id l e=>?_⟩
   have D:id<nn S E' (i+1):=O.Qe e
   refine Gh.Ol D ?_
   by_cases hb:nn S E' i≤id
   · rw[hgin hb D];exact e
   · rw[L (by omega)]
     have:=hx.wY id (by rw[hnxi];omega)
     rw[this] at e
     exact(Gh.ka e).2
 have hwr:∀ s o0 B,(E i).get s=some o0→(E i).lim≤s→(g.cut (nn S E' i)).ph s=some B→ch i s≠none∧g.ph s=some B∧S.lim≤s∧∃ st,ov S E' ch X n s=some (o0,st):=
   fun s o0 B M e2 e3=>⟨h.asM i hi s o0 M e2,(Gh.ka e3).2,lH (h.lim i hi) e2,let ⟨st,a,_⟩:=W s o0 M;⟨st,a⟩⟩
 have hov_ch:∀ {id r},ch i id=some r→ov S E' ch (An X i) n id=match r with
     | some ob=>some (ob,nn S E' (i+1))
     | none=>none:=by
   intro id r hr
   rw[LD (i:=i+1) (by omega)]
   · simp only[ov,pB,if_true,hr]
     cases r<;>rfl
   · intro j hij C J
     rw[nc X (by omega)] at J
     have G:=hX' j J
     cases I:ch j id with
     | none=>rfl
     | some r' =>
       exfalso
       rcases h.akz j C id (by rw[I];simp) with q | q
       · exact q (h.Om j C i (by omega) G.2 id (by rw[hr];simp))
       · have h1:=(h.afw i hi id (by rw[hr];simp)).2
         have h2:=K (show i+1≤j by omega) (by omega)
         rw[h.ae9 j C] at q
         have h3:nn S E' (i+1)=(E' i).nx:=rfl
         omega
 have A:∀ {id},ch i id=none→ov S E' ch (An X i) n id=ov S E' ch X n id:=by
   intro id I
   refine AR fun j _ hcj=>?_
   by_cases e:j=i
   · subst e;exact absurd I hcj
   · exact nc X e
 have hun:∀ {id ob st},ch i id=none→ov S E' ch X n id=some (ob,st)→∃ l,(g.cut st).ph id=some l∧l.cU<w.heap.size∧wX (g.cut st) l w.heap[l.cU]? ob∧g.ro l.cU=none ∧
     (∀ s o0 B,(E i).get s=some o0→(E i).lim≤s→(g.cut (nn S E' i)).ph s=some B→B.cU≠l.cU):=by
   intro id ob st I e
   obtain⟨l,a,b,c⟩:=z.ob id ob st e
   refine⟨l,a,c.lt,c,b,fun s o0 B M e2 e3 eb=>?_⟩
   obtain⟨q1,q2,q3,T,q4⟩:=hwr s o0 B M e2 e3
   have:=z.inj s id o0 ob T st B l q4 e q2 (Gh.ka a).2 eb
   subst this;exact q1 I
 have Q:∀ {id ob st},ch i id≠none→ov S E' ch (An X i) n id=some (ob,st)→st=nn S E' (i+1)∧(E' i).get id=some ob∧(E i).lim≤id:=by
   intro id ob st I e
   cases hr:ch i id with
   | none=>exact absurd hr I
   | some r=>
     rw[hov_ch hr] at e
     cases r with
     | none=>simp at e
     | some ob' =>
       simp only[ba,lR] at e
       obtain⟨rfl,rfl⟩:=e
       exact⟨rfl,h.asL i hi id _ hr,(h.afw i hi id I).1⟩
 have Z:=yn ht ho x
 have hgst:∀ {st},Gh.le (g.cut st) (gn.cut st):=Gh.JR hle (bJ _)
 refine⟨fr.finish x,w', gn,hs,by rw[Z],?_⟩
 have hown:∀ id o st l,ov S E' ch (An X i) n id=some (o,st)→S.lim≤id→gn.ph id=some l→l.cU<w0.heap.size→∃ s o0 B,S.get s=some o0∧S.lim≤s∧g0.ph s=some B∧B.cU=l.cU:=by
   intro id ob st l e hlim hl D
   by_cases I:ch i id=none
   · rw[A I] at e
     obtain⟨l', a,_⟩:=z.ob id ob st e
     have hl' := hle.ph _ _ (Gh.ka a).2
     rw[hl] at hl';simp only[ba] at hl';subst hl'
     exact z.own id ob st l e hlim (Gh.ka a).2 D
   · obtain⟨_,q2,q3⟩:=Q I e
     obtain⟨l1,r1,_,_⟩:=O.ob id ob q2
     have U:=(Gh.ka (R.ph _ _ r1)).2
     rw[hl] at U;simp only[ba] at U;subst U
     obtain⟨s,o0,B,f1,f2,f3,f4⟩:=hx.own id ob l q2 q3 r1 (mJ D z.size)
     obtain⟨_,p2,p3,T,p4⟩:=hwr s o0 B f1 f2 f3
     obtain⟨id1,o1,l1,z1,z2,z3,z4⟩:=z.own s o0 T B p4 p3 p2 (f4▸D)
     exact⟨id1,o1,l1,z1,z2,z3,z4.trans f4⟩
 refine⟨?_,?_,?_,?_,?_,lH z.size hx.size,hx.os.trans z.os,Lg.trans hx.tape z.tape,hx.output.trans z.output,?_,hown,Gh.le_trans z.pc hle,?_,?_,?_,?_,?_⟩
 · intro t u st e
   rw[Z]
   by_cases hd:tF ops i=some t∧t<F.n
   · obtain⟨hd,htn⟩:=hd
     have hdo:o.dst=some t:=by simpa [tF,ho] using hd
     rw[T2 (i:=i+1) (by omega)] at e
     · simp only[sv,pB,hd,htn,and_self,if_true,ba,lR] at e
       obtain⟨rfl,rfl⟩:=e
       exact⟨x,by simp[hdo,z.LC,htn],hv.mono R⟩
     · intro j hij C J hdj
       rw[nc X (by omega)] at J
       have G:=hX' j J
       obtain⟨oj,N⟩:=mdE j C
       have hd' : oj.dst=some t:=by simpa [tF,N] using hdj
       exact(Oper.apart_spec (hap j i oj o C (by omega) G.2 N ho)).2.1 t hd' hdo
   · have hsame:sv ops F S E' v (An X i) n t=sv ops F S E' v X n t:=by
       by_cases htn:t<F.n
       · refine FL fun j _ hdj=>?_
         by_cases e:j=i
         · subst e;exact absurd ⟨hdj,htn⟩ hd
         · exact nc X e
       · exact aee htn
     rw[hsame] at e
     obtain⟨y,y1,y2⟩:=z.wu t u st e
     refine⟨y,?_,y2.mono hgst⟩
     cases hdo:o.dst with
     | none=>exact y1
     | some d=>
       simp only[ny]
       by_cases hdt:d=t
       · subst hdt
         exfalso
         have D:=(y8.1 y1).1
         exact hd ⟨by simp[tF,ho,hdo],by rw[←z.LC];exact D⟩
       · rw[if_neg hdt];exact y1
 · intro id ob st e
   by_cases I:ch i id=none
   · rw[A I] at e
     obtain⟨l,a,b,c,d,f⟩:=hun I e
     refine⟨l,hgst.ph _ _ a,?_,?_⟩
     · rw[H]
       cases hr:g1.ro l.cU with
       | none=>rfl
       | some cc=>
         exfalso
         rcases hx.C2 l.cU cc hr b with q | ⟨s,o0,B,f1,f2,f3,f4⟩
         · have q' : g.ro l.cU=some cc:=q
           rw[d] at q';simp at q'
         · exact f s o0 B f1 f2 f3 f4
     · rw[hx.jr l.cU b f];exact c.mono hgst
   · obtain⟨rfl,q2,q3⟩:=Q I e
     obtain⟨l1,r1,r2,r3⟩:=O.ob id ob q2
     exact⟨l1,R.ph _ _ r1,by rw[H];exact r2,r3.mono R⟩
 · have key:∀ a b oa ob sa sb la lb,ch i a≠none→ch i b=none→ov S E' ch (An X i) n a=some (oa,sa)→ov S E' ch (An X i) n b=some (ob,sb)→gn.ph a=some la→gn.ph b=some lb→la.cU=lb.cU→False:=by
     intro a b oa ob sa sb la lb ca cb ea eb pa pb V
     rw[A cb] at eb
     obtain⟨l,z1,z2,z3,z4,z5⟩:=hun cb eb
     have:=(Gh.ka (hgst.ph _ _ z1)).2
     rw[pb] at this;simp only[ba] at this;subst this
     obtain⟨_,q2,q3⟩:=Q ca ea
     obtain⟨l1,r1,_,_⟩:=O.ob a oa q2
     have U:=(Gh.ka (R.ph _ _ r1)).2
     rw[pa] at U;simp only[ba] at U;subst U
     obtain⟨s,o0,B,f1,f2,f3,f4⟩:=hx.own a oa la q2 q3 r1 (V▸z2)
     exact z5 s o0 B f1 f2 f3 (f4.trans V)
   intro a b oa ob sa sb la lb ea eb pa pb V
   by_cases ca:ch i a=none<;>by_cases cb:ch i b=none
   · rw[A ca] at ea;rw[A cb] at eb
     obtain⟨l,z1,_⟩:=z.ob a oa sa ea
     obtain⟨l', z1', _⟩:=z.ob b ob sb eb
     have h1:=hle.ph _ _ (Gh.ka z1).2
     have h2:=hle.ph _ _ (Gh.ka z1').2
     rw[pa] at h1;rw[pb] at h2;simp only[ba] at h1 h2;subst h1;subst h2
     exact z.inj a b oa ob sa sb la lb ea eb (Gh.ka z1).2 (Gh.ka z1').2 V
   · exact(key b a ob oa sb sa lb la cb ca eb ea pb pa V.symm).elim
   · exact(key a b oa ob sa sb la lb ca cb ea eb pa pb V).elim
   · obtain⟨_,q2,_⟩:=Q ca ea
     obtain⟨_,q2', _⟩:=Q cb eb
     obtain⟨l1,r1,_,_⟩:=O.ob a oa q2
     obtain⟨l2,r2,_,_⟩:=O.ob b ob q2'
     have h1:=(Gh.ka (R.ph _ _ r1)).2
     have h2:=(Gh.ka (R.ph _ _ r2)).2
     rw[pa] at h1;rw[pb] at h2;simp only[ba] at h1 h2;subst h1;subst h2
     exact O.inj a b oa ob la lb q2 q2' r1 r2 V
 · intro b c e;exact O.ro b c (by rw[←H];exact e)
 · intro id l e
   by_cases hb:nn S E' i≤id∧id<nn S E' (i+1)
   · exact .inr ⟨i,hi,pB X i,hb.1,hb.2⟩
   · rw[L hb] at e
     rcases z.afx id l e with q | ⟨j,q1,q2,q3,q4⟩
     · exact .inl q
     · exact .inr ⟨j,q1,by rw[nc X (hX' j q2).1];exact q2,q3,q4⟩
 · intro b hb G
   rw[hx.jr b (mJ hb z.size) ?_,z.jr b hb G]
   intro s o0 B M e2 e3 e4
   obtain⟨_,p2,p3,T,p4⟩:=hwr s o0 B M e2 e3
   obtain⟨id1,o1,l1,z1,z2,z3,z4⟩:=z.own s o0 T B p4 p3 p2 (e4▸hb)
   exact G id1 o1 l1 z1 z2 z3 (z4.trans e4)
 · intro id bE
   rw[L (by omega)];exact z.wY id bE
 · intro b c e hb
   rw[H] at e
   rcases hx.C2 b c e (mJ hb z.size) with q | ⟨s,o0,B,M,e2,e3,e4⟩
   · exact z.C2 b c q hb
   · obtain⟨_,p2,p3,T,p4⟩:=hwr s o0 B M e2 e3
     obtain⟨id1,o1,l1,z1,z2,z3,z4⟩:=z.own s o0 T B p4 p3 p2 (e4▸hb)
     exact .inr ⟨id1,o1,l1,z1,z2,z3,z4.trans e4⟩
 · exact fun a ha=>(hx.fz a (mJ ha z.size)).trans (z.fz a ha)
 · rw[Z]
   cases o.dst<;>simp[z.LC]
 · have:=z.frame
   rw[Z]
   rw[this]
theorem Qu : ∀(l:List Bool) (i:Nat),l[i]? = some false→(l.set i true).count false+1=l.count false:=by
 intro l
 induction l with
 | nil=>intro i h;simp at h
 | cons b l a=>
   intro i h
   cases i with
   | zero=>simp_all
   | succ i=>
     have:=a i (by simpa using h)
     simp only[List.set_cons_succ,List.count_cons]
     omega
theorem DJ.congr (a:∀ j,j<n→X j=Y j)(h:DJ ops F S E' v ch X n g0 w0 fr0 g w fr):DJ ops F S E' v ch Y n g0 w0 fr0 g w fr:=by
 have h1:∀ t,sv ops F S E' v Y n t=sv ops F S E' v X n t:=fun t=>(FL fun j c _=>a j c).symm
 have h2:∀ id,ov S E' ch Y n id=ov S E' ch X n id:=fun id=>(AR fun j c _=>a j c).symm
 refine ⟨fun t u st e=>h.wu t u st (h1 t▸e),fun id o st e=>h.ob id o st (h2 id▸e),fun id b o o' st d l l' e f=>h.inj id b o o' st d l l' (h2 id▸e) (h2 b▸f),h.ro,fun id l e=>?_,h.size,h.os,h.tape,h.output,h.jr,
  fun id o st l e=>h.own id o st l (h2 id▸e),h.pc,h.wY,h.C2,h.fz,h.LC,h.frame⟩
 rcases h.afx id l e with q | ⟨j,k,q2,q3⟩
 · exact .inl q
 · exact .inr ⟨j,k,by simp_all,q3⟩
structure Ar (ops : Array Oper) (pm : Nat → Nat → Bool) : Prop where
 low : ∀ i o e, ops[i]? = some o → e ∈ o.after → Region.binds .any e = true → e.on < i
 up : ∀ i j, pm i j = true → ∃ o e, ops[i]? = some o ∧ e ∈ o.after ∧ Region.binds .any e = true ∧ (e.on = j ∨ pm e.on j = true)
variable {aE : Array Bool}
theorem Vc (f:Ar ops pm)(hs:aE.size=ops.size):∀(i:Nat),aE.toList[i]? = some false→∃ j,j∈Region.ready .any ops aE:=by
 intro i
 induction i using Nat.strongRecOn with
 | _ i k=>
   intro hf
   have b:aE[i]? = some false:=by simpa using hf
   have c:i<ops.size:=by rw[←hs];exact(y8.1 b).1
   have d:ops[i]? = some ops[i]:=Ak c
   by_cases h:∀ e∈ops[i].after,Region.binds .any e=true→aE.getD e.on false=true
   · exact⟨i,mem_ready.2 ⟨by simp_all,_,d,h⟩⟩
   · have:∃ e,e∈ops[i].after∧Region.binds .any e=true∧¬ aE.getD e.on false=true:=by
      refine Classical.byContradiction fun o=>h fun e h1 h2=>Classical.byContradiction fun h3=>o ⟨e,h1,h2,h3⟩
     obtain⟨e,p,q,r⟩:=this
     have s:=f.low i _ e d p q
     have a:e.on<aE.size:=by omega
     refine k e.on s ?_
     have u:aE[e.on]? = some aE[e.on]:=Ak a
     cases hb:aE[e.on] with
     | false=>simp[a,hb]
     | true=>exact absurd (by simp[oc,u,hb]) r
theorem Ar.lt (a:Ar ops pm):∀ i k,pm i k=true→k<i:=by
 intro i
 induction i using Nat.strongRecOn with
 | _ i b=>
   intro k h
   obtain⟨o,e,c,a2,a3,a4⟩:=a.up i k h
   have:=a.low i o e c a2 a3
   rcases a4 with rfl | a4
   · exact this
   · exact Nat.lt_trans (b _ this k a4) this
theorem Vd (s:Ar ops pm)(y:∀ i,n≤i→i<ops.size→∀ j,j<i→pm i j=true):∀(k fuel t i:Nat) (aE:Array Bool),aE.size=ops.size→n≤i→(∀ j,aE.getD j false=decide (j<i))→i+k=ops.size→k≤fuel →
   Region.linearise.go .any ops fuel t aE []=List.range' i k:=by
 intro k
 induction k with
 | zero=>
   intro fuel t i aE hs z a A _
   have d:Region.ready .any ops aE=[]:=by
     cases G:Region.ready .any ops aE with
     | nil=>rfl
     | cons x xs=>
       obtain⟨h1,o,h2,_⟩:=mem_ready.1 (show x∈Region.ready .any ops aE by rw[G];exact jq ..)
       have hx:x<ops.size:=(y8.1 h2).1
       have a:=a x
       simp only[oc,Ak (show x<aE.size by omega),xm] at a h1
       rw[a] at h1
       simp at h1
       omega
   cases fuel with
   | zero=>simp[Region.linearise.go]
   | succ f=>
     simp only[Region.linearise.go]
     change (match (Region.ready .any ops aE)[t%(Region.ready .any ops aE).length]? with
       | some i=>Region.linearise.go .any ops f (t/(Region.ready .any ops aE).length) (aE.setIfInBounds i true) [i]
       | none=>[].reverse)=_
     rw[d]
     simp
 | succ k H=>
   intro fuel t i aE hs z a A hf
   obtain⟨f,rfl⟩:∃ f,fuel=f+1:=⟨fuel-1,by omega⟩
   have hi:i<ops.size:=by omega
   have C:ops[i]? = some ops[i]:=Ak hi
   have h:i∈Region.ready .any ops aE:=by
     refine mem_ready.2 ⟨?_,_,C,fun e h1 h2=>?_⟩
     · have:=a i
       simp only[oc,Ak (show i<aE.size by omega),xm] at this ⊢
       rw[this];simp
     · rw[a];simpa using s.low i _ e C h1 h2
   have p:∀ x,x∈Region.ready .any ops aE→x=i:=by
     intro x hx
     obtain⟨h1,o,h2,h3⟩:=mem_ready.1 hx
     have B:x<ops.size:=(y8.1 h2).1
     have b:=a x
     simp only[oc,Ak (show x<aE.size by omega),xm] at b h1
     rw[b] at h1
     simp at h1
     rcases jT i x with q | q
     · exfalso
       obtain⟨o', e,u,a2,a3,a4⟩:=s.up x i (y x (by omega) B i q)
       rw[h2] at u;simp only[ba] at u;subst u
       have c:=h3 e a2 a3
       rw[a] at c
       simp at c
       rcases a4 with rfl | a4
       · omega
       · have:=s.lt _ _ a4;omega
     · omega
   simp only[Region.linearise.go]
   change (match (Region.ready .any ops aE)[t%(Region.ready .any ops aE).length]? with
     | some i=>Region.linearise.go .any ops f (t/(Region.ready .any ops aE).length) (aE.setIfInBounds i true) [i]
     | none=>[].reverse)=_
   have r:0<(Region.ready .any ops aE).length:=List.length_pos_of_mem h
   have D:=qm (Nat.mod_lt t r)
   have:=p _ (uI D)
   rw[D,this]
   simp only
   rw[linearise_go_acc,List.reverse_singleton,FC,List.range'_succ]
   congr 1
   refine H f _ (i+1) _ (by simpa using hs) (by omega) (fun j=>?_) (by omega) (by omega)
   by_cases e:j=i
   · subst e;simp[show j<aE.size by omega]
   · rw[getD_set_ne false (Ne.symm e),a]
     simp;omega
theorem Ve : ∀(l:List Bool) (q:Nat),(∀ j,q≤j→l[j]? ≠ some true)→l.length-q≤l.count false:=by
 intro l
 induction l with
 | nil=>intro q _;simp
 | cons b l c=>
   intro q a
   cases q with
   | zero=>
     have:=c 0 fun j _=>by simpa using a (j+1) (bU _)
     have hb:b=false:=by
      have:=a 0 (bJ _)
      simpa using this
     subst hb
     simp;omega
   | succ q=>
     have:=c q fun j d=>by simpa using a (j+1) (by omega)
     simp only[lI,List.count_cons]
     omega
variable {fuel : Nat}
theorem Vf (c:Ar ops pm)(d:n≤ops.size)(a:∀ i,n≤i→i<ops.size→∀ j,j<i→pm i j=true)(hs:aE.size=ops.size)(b:∀ j,aE.getD j false=decide (j<n))(f:aE.toList.count false≤fuel) :
  Region.linearise.go .any ops fuel t aE []=List.range' n (ops.size-n):=by
 refine Vd c a (ops.size-n) fuel t n aE hs (bJ _) b (by omega) ?_
 have:=Ve aE.toList n fun j h=>by
  intro e
  have h1:aE.getD j false=true:=by
   simp_all
  rw[b] at h1
  simp at h1;omega
 rw[xh,hs] at this
 omega
theorem aef (u:Ar ops pm)(G:n<ops.size)(z:∀ i,n<i→i<ops.size→pm i n=true)(hs:aE.size=ops.size)(c:∀ j,aE.getD j false=decide (j<n))(I:aE.toList.count false≤fuel) :
   ∃ b H a,Region.linearise.go .any ops fuel t aE []=n::Region.linearise.go .any ops b H a []∧a.size=ops.size∧(∀ j,a.getD j false=decide (j<n+1))∧a.toList.count false≤b:=by
 have d:aE.toList[n]? = some false:=by
   have:=c n
   simp_all
 have D:0<aE.toList.count false:=List.count_pos_iff.2 (uI d)
 obtain⟨f,rfl⟩:∃ f,fuel=f+1:=⟨fuel-1,by omega⟩
 have B:ops[n]? = some ops[n]:=Ak G
 have p:n∈Region.ready .any ops aE:=by
   refine mem_ready.2 ⟨?_,_,B,fun e h1 h2=>?_⟩
   · have:=c n
     simp only[oc,Ak (show n<aE.size by omega),xm] at this ⊢
     rw[this];simp
   · rw[c];simpa using u.low n _ e B h1 h2
 have r:∀ x,x∈Region.ready .any ops aE→x=n:=by
   intro x hx
   obtain⟨h1,o,h2,h3⟩:=mem_ready.1 hx
   have A:x<ops.size:=(y8.1 h2).1
   have h:=c x
   simp only[oc,Ak (show x<aE.size by omega),xm] at h h1
   rw[h] at h1
   simp at h1
   rcases jT n x with q | q
   · exfalso
     obtain⟨o', e,y,a2,a3,a4⟩:=u.up x n (z x q A)
     rw[h2] at y;simp only[ba] at y;subst y
     have k:=h3 e a2 a3
     rw[c] at k
     simp at k
     rcases a4 with rfl | a4
     · omega
     · have:=u.lt _ _ a4;omega
   · omega
 have s:0<(Region.ready .any ops aE).length:=List.length_pos_of_mem p
 have C:=qm (Nat.mod_lt t s)
 have:=r _ (uI C)
 refine⟨f,t/(Region.ready .any ops aE).length,aE.setIfInBounds n true,?_,by simpa using hs,fun j=>?_,?_⟩
 · simp only[Region.linearise.go]
   change (match (Region.ready .any ops aE)[t%(Region.ready .any ops aE).length]? with
     | some i=>Region.linearise.go .any ops f (t/(Region.ready .any ops aE).length) (aE.setIfInBounds i true) [i]
     | none=>[].reverse)=_
   rw[C,this]
   simp only
   rw[linearise_go_acc,List.reverse_singleton,FC]
 · by_cases e:j=n
   · subst e;simp[show j<aE.size by omega]
   · rw[getD_set_ne false (Ne.symm e),c]
     simp;omega
 · have:=Qu aE.toList n d
   simp only[Array.toList_setIfInBounds];omega
theorem DJ.run (h:DP ops F S pm E E' v ch P i0 n)(hn:n≤ops.size)(he:Ar ops pm)(Q:∀ i,n≤i→i<ops.size→∀ j,j<n→pm i j=true)(R:∀ i j oi oj,i<n→j<i→pm i j=false→ops[i]? = some oi→ops[j]? = some oj→oi.apart ops oj=true)(hS:∀ id o,S.get id=some o→id<S.nx)(G:fr0.mode=.run) :
   ∀ (fuel t:Nat) (aE:Array Bool) (g:Gh) (w:World) (fr:Frame),aE.size=ops.size→aE.toList.count false≤fuel →
     (∀ j,aE.getD j false=true→∀ k,pm j k=true→aE.getD k false=true)→(∀ j,aE.getD j false=true→j<n)→(∀ j,j<i0→aE.getD j false=true) →
     DJ ops F S E' v ch (fun j=>aE.getD j false) n g0 w0 fr0 g w fr→fr.todo=.inRegion ops (Region.linearise.go .any ops fuel t aE [])::m →
     ∃ s w' g' u t' c,Steps P (lone fr cs w) (lone s cs w')∧s.todo=.inRegion ops (Region.linearise.go .any ops u t' c [])::m∧c.size=ops.size∧(∀ j,c.getD j false=decide (j<n))∧c.toList.count false≤u∧DJ ops F S E' v ch (fun _=>true) n g0 w0 fr0 g' w' s:=by
 intro fuel
 induction fuel with
 | zero=>
   intro t aE g w fr y I z f BS H x
   have d:∀ j,j<ops.size→aE.getD j false=true:=by
     intro j B
     have A:aE[j]? = some aE[j]:=Ak (by omega)
     cases hb:aE[j] with
     | true=>simp[oc,A,hb]
     | false=>
       have:false∈aE.toList:=by rw[←hb];simp
       have:=List.count_pos_iff.2 this
       omega
   have hns:n=ops.size:=by
     rcases jT n ops.size with q | q
     · have:=f n (d n q);omega
     · omega
   refine⟨fr,w,g,0,t,aE,Steps.refl _ _,x,y,fun j=>?_,I,H.congr fun j B=>d j (by omega)⟩
   by_cases q:j<n
   · rw[d j (by omega)];simp[q]
   · cases e:aE.getD j false with
     | true=>exact absurd (f j e) q
     | false=>simp[q]
 | succ fuel ih=>
   intro t aE g w fr y I z f BS H x
   by_cases d:∀ j,j<n→aE.getD j false=true
   · have hl:∀ j,aE.getD j false=decide (j<n):=by
       intro j
       by_cases q:j<n
       · rw[d j q];simp[q]
       · cases e:aE.getD j false with
         | true=>exact absurd (f j e) q
         | false=>simp[q]
     exact⟨fr,w,g,fuel+1,t,aE,Steps.refl _ _,x,y,hl,I,H.congr fun j B=>d j B⟩
   have T:∃ j,j<n∧aE.getD j false=false:=by
     refine Classical.byContradiction fun I=>d fun j H=>?_
     cases e:aE.getD j false with
     | true=>rfl
     | false=>exact absurd ⟨j,H,e⟩ I
   obtain⟨J,U,L⟩:=T
   simp only[Region.linearise.go] at x
   change fr.todo=.inRegion ops (match (Region.ready .any ops aE)[t%(Region.ready .any ops aE).length]? with
     | some i=>Region.linearise.go .any ops fuel (t/(Region.ready .any ops aE).length) (aE.setIfInBounds i true) [i]
     | none=>[].reverse)::m at x
   cases hi:(Region.ready .any ops aE)[t%(Region.ready .any ops aE).length]? with
   | none=>
     exfalso
     have A:aE[J]? = some aE[J]:=Ak (by omega)
     obtain ⟨r,hr⟩:=Vc (aE:=aE) he (by omega) J (by
       rw[vB,A]
       simpa [oc,A] using L)
     have f:=Nat.mod_lt t (List.length_pos_of_mem hr)
     rw[qm f] at hi
     simp at hi
   | some i=>
     rw[hi] at x
     simp only at x
     rw[linearise_go_acc,List.reverse_singleton,FC] at x
     have N:=uI hi
     obtain⟨V,o,ho,W⟩:=mem_ready.1 N
     have Z:i<ops.size:=(y8.1 ho).1
     have A:aE[i]? = some aE[i]:=Ak (by omega)
     have C:aE[i]=false:=by simpa [oc,A] using V
     have D:∀ j,pm i j=true→aE.getD j false=true:=by
       intro j hp
       obtain⟨o', e,O,a2,a3,a4⟩:=he.up i j hp
       rw[ho] at O;simp only[ba] at O;subst O
       have:=W e a2 a3
       rcases a4 with rfl | a4
       · exact this
       · exact z e.on this j a4
     have M:i<n:=by
       rcases jT i n with q | q
       · exact q
       · have:=D J (Q i q Z J U)
         rw[L] at this;simp at this
     obtain ⟨s,w', g', s1,s2,s3⟩:=H.step (cs:=cs) h hn R hS (by
       rcases jT i i0 with q | q
       · have:=BS i q
         simp[oc,A,C] at this
       · exact q) M (by simp[oc,A,C]) (fun j a=>⟨f j a,z j a⟩) D G x
     have p:∀ j,(aE.setIfInBounds i true).getD j false=An (fun j=>aE.getD j false) i j:=by
       intro j
       by_cases e:j=i
       · subst e;simp[An,show j<aE.size by omega]
       · rw[nc _ e];exact getD_set_ne false (Ne.symm e)
     obtain ⟨fr2,w2,g2,f2,t2,l2,r1,r2,r3⟩:=ih (t/(Region.ready .any ops aE).length) (aE.setIfInBounds i true) g' w' s (by simpa using y) (by
         have:=Qu aE.toList i (by simp[show i<aE.size by omega,C])
         simp only[Array.toList_setIfInBounds];omega) (by
         intro j a k b
         rw[p] at a ⊢
         by_cases e:j=i
         · subst e
           by_cases K:k=j
           · subst K;exact pB _ _
           · rw[nc _ K];exact D k b
         · rw[nc _ e] at a
           by_cases K:k=i
           · subst K;exact pB _ _
           · rw[nc _ K];exact z j a k b) (by
         intro j a
         rw[p] at a
         by_cases e:j=i
         · subst e;exact M
         · rw[nc _ e] at a;exact f j a) (by
         intro j a
         rw[p]
         by_cases e:j=i
         · subst e;exact pB _ _
         · rw[nc _ e];exact BS j a) (s3.congr fun j _=>(p j).symm) s2
     exact⟨fr2,w2,g2,f2,t2,l2,Steps.trans s1 r1,r2,r3⟩
def lo (F:ae):Nat:=match F.todo with
 | .ops _ [_,i0,_,_]::_=>i0
 | _=>0
def Tn (ops:Array Oper)(F:ae)(k:List bg):Prop:=(∃ id,F.todo=.code (.region id ops true)::k)∨∃ i0 wm sm,F.todo=.ops ops [ops.size,i0,wm,sm]::k
theorem Tn.begin {k:List bg}(f:P.follows .mixedOrders=true)(p:F.mode=.run)(e:Tn ops F k)(hf:m8 P g F fr) :
   ∃ m b fuel t aE,Steps P (lone fr cs w) (lone { fr with todo:=.inRegion ops (Region.linearise.go .any ops fuel t aE [])::m } cs { w with drawn:=w.drawn+b })∧nK g k m∧aE.size=ops.size∧(∀ j,aE.getD j false=decide (j<lo F))∧aE.toList.count false≤fuel:=by
 have h:=hf.runs p
 have a:=hf.todo
 rcases e with⟨id,e⟩ | ⟨i0,wm,sm,e⟩
 · rw[e] at a
   generalize c:fr.todo=td at a
   cases a with | cons h1 h2=>?_
   cases h1
   rename_i m
   have d:step P (lone fr cs w)=.next (lone { fr with todo:=.inRegion ops (Region.schedule (P.follows .mixedOrders) ops (w.tape w.drawn (.order fr.fn id)))::m } cs { w with drawn:=w.drawn+1 }):=
     step_lone_go (by simp[stepG,stepG.exec,h,c,choose,Sem.run,Question.forced,Question.cut])
   rw[f] at d
   simp only[Region.schedule,Bool.true_or,if_true,Region.linearise] at d
   generalize w.tape w.drawn (.order fr.fn id)=t at d
   refine⟨m,1,ops.size,t,Array.replicate ops.size false,.one d,h2,by simp,fun j=>?_,by simp⟩
   have:lo F=0:=by unfold lo;rw[e]
   rw[this]
   simp only[oc,Array.getElem?_replicate]
   split<;>simp
 · rw[e] at a
   generalize c:fr.todo=td at a
   cases a with | cons h1 h2=>?_
   rename_i m
   cases h1 with | ops q=>?_
   cases q with
   | cons hi _=>simp_all
   | rest _ _ _ hs r s=>
     rename_i fuel t aE
     have o:fr={ fr with todo:=.inRegion ops (Region.linearise.go .any ops fuel t aE [])::m }:=by rw[←c]
     have u:w={ w with drawn:=w.drawn+0 }:=rfl
     refine⟨m,0,fuel,t,aE,?_,h2,hs,fun j=>?_,s⟩
     · rw[←o];exact Steps.refl _ _
     · have:lo F=i0:=by unfold lo;rw[e]
       rw[this];exact r j
structure Lo (ops : Array Oper) (F : ae) (S : ag) (E' : Nat → ag) (v : Nat → AV) (ch : Nat → Nat → Option (Option aO)) (i0 : Nat) : Prop where
 nx : ∀ j, j < i0 → (E' j).nx = S.nx
 ch : ∀ j, j < i0 → ∀ id, ch j id = none
 v : ∀ j, j < i0 → ∀ t, tF ops j = some t → v j = (F.get t).getD .top
theorem DJ.init (BS:Lo ops F S E' v ch i0)(hf:m8 P g F fr)(hi:Inv S g w)(td:List Item)(b:Nat)(B:i0≤n) :
   DJ ops F S E' v ch (fun j=>decide (j<i0)) n g w fr g { w with drawn:=w.drawn+b } { fr with todo:=td }:=by
 have r:∀ m t u st,m≤i0→sv ops F S E' v (fun j=>decide (j<i0)) m t=some (u,st)→st=S.nx∧(F.get t=some u∨u=.top∧t<F.n):=by
   intro m
   induction m with
   | zero=>
     intro t u st _ e
     simp only[sv] at e
     split at e<;>simp only[ba,lR,reduceCtorEq] at e
     rename_i L hu
     obtain⟨rfl,rfl⟩:=e
     exact⟨rfl,.inl hu⟩
   | succ m C=>
     intro t u st M e
     simp only[sv] at e
     split at e
     · rename_i q
       simp only[ba,lR] at e
       obtain⟨rfl,rfl⟩:=e
       refine⟨BS.nx m (by omega),?_⟩
       rw[BS.v m (by omega) t q.2.1]
       cases N:F.get t with
       | none=>exact .inr ⟨rfl,q.2.2⟩
       | some u=>exact .inl rfl
     · exact C t u st (by omega) e
 have y:∀ t u st,sv ops F S E' v (fun j=>decide (j<i0)) n t=some (u,st)→st=S.nx∧(F.get t=some u∨u=.top∧t<F.n):=by
   intro t u st e
   rw[T2 (i:=i0) B (fun j h1 _ h3=>by simp at h3;omega)] at e
   exact r i0 t u st (bJ _) e
 have d:∀ id,ov S E' ch (fun j=>decide (j<i0)) n id=ov S E' ch (fun j=>decide (j<i0)) 0 id:=by
   intro id
   exact LD (i:=0) (bU _) (fun j _ _ e=>BS.ch j (by simpa using e) id)
 have f:∀ {id l},g.ph id=some l→(g.cut S.nx).ph id=some l:=fun e=>Gh.Ol (hi.Qe e) e
 have k:Gh.le g (g.cut S.nx):=⟨fun _ _ e=>e,fun _ _ e=>f e⟩
 refine⟨?_,?_,?_,hi.ro,fun id l e=>.inl (hi.Qe e),bJ _,rfl,⟨rfl,Nat.le_add_right _ _⟩,rfl,fun _ _ _=>rfl,?_,Gh.le_refl _,fun _ _=>rfl,fun _ _ e _=>.inl e,fun _ _=>rfl,hf.size,rfl⟩
 · intro t u st e
   obtain⟨rfl,q | ⟨rfl,q⟩⟩:=y t u st e
   · obtain⟨x,a,b⟩:=hf.get t _ q
     exact⟨x,a,b.mono k⟩
   · exact⟨_,Ak (by rw[hf.size];exact q),.top⟩
 · intro id o st e
   rw[d] at e
   simp only[ov] at e
   split at e<;>simp only[ba,lR,reduceCtorEq] at e
   rename_i o' D
   obtain⟨rfl,rfl⟩:=e
   obtain⟨l,a,b,c⟩:=hi.ob id _ D
   exact⟨l,f a,b,c.mono k⟩
 · intro id z o o' st J l l' e s p G hb
   rw[d] at e s
   simp only[ov] at e s
   split at e<;>simp only[ba,lR,reduceCtorEq] at e
   rename_i o1 h
   split at s<;>simp only[ba,lR,reduceCtorEq] at s
   rename_i o2 A
   exact hi.inj id z o1 o2 l l' h A p G hb
 · intro id o st l e H I K
   rw[d] at e
   simp only[ov] at e
   split at e<;>simp only[ba,lR,reduceCtorEq] at e
   rename_i o1 h
   exact⟨id,o1,l,h,H,I,rfl⟩
theorem Reach.drawn {P:Program}{n:Nat}{F' : ae}{N:ag}{G:ae→ag→Prop}{k:List bg}{rl:List Nat}(I:P.follows .mixedOrders=true)(hm:F.mode=.run)(ht:Tn ops F k)(BS:Lo ops F S E' v ch (lo F))(R:lo F≤n)
   (h:DP ops F S pm E E' v ch P (lo F) n) (hn:n≤ops.size) (he:Ar ops pm) (T:∀ i,n≤i→i<ops.size→∀ j,j<n→pm i j=true)
   (U:∀ i j oi oj,i<n→j<i→pm i j=false→ops[i]? = some oi→ops[j]? = some oj→oi.apart ops oj=true)
   (V:∀(fuel t:Nat) (aE:Array Bool),aE.size=ops.size→(∀ j,aE.getD j false=decide (j<n))→aE.toList.count false≤fuel→xe ops rl (Region.linearise.go .any ops fuel t aE []))
   (O:F'.n=F.n∧F'.todo=.ops ops rl::k∧F'.defers=F.defers∧F'.mode=F.mode) (hk:F'.kind=F.kind) (A:F'.fn=F.fn) (B:F'.round=F.round) (W:F'.cm=F.cm)
   (J:∀ t u,F'.get t=some u→∃ st,sv ops F S E' v (fun _=>true) n t=some (u,st))
   (C : N.nx=nn S E' n) (K:N.lim=S.lim) (d:∀ id,N.get id=match ov S E' ch (fun _=>true) n id with
     | some (o,_)=>some o
     | none=>none) (hr:Reach P F' N G):Reach P F S G:=by
 refine hr.DS hk A B W fun g w fr cs hf hi=>?_
 have L:=hf.runs hm
 obtain⟨m,b,fuel,t,aE,Z,h2,q1,q2,q3⟩:=Tn.begin (cs:=cs) I hm ht hf (w:=w)
 obtain ⟨z,w', g', f2,t2,l2,s1,s2,r1,r2,r3,s3⟩:=DJ.run (cs:=cs) (m:=m) h hn he T U (fun id o e=>hi.lU e) L fuel t aE g { w with drawn:=w.drawn+b }
   { fr with todo:=.inRegion ops (Region.linearise.go .any ops fuel t aE [])::m } q1 q3 (by
     intro j a k e
     rw[q2] at a ⊢
     have:=he.lt _ _ e
     simp at a ⊢;omega) (by intro j a;rw[q2] at a;simp at a;omega) (by simp_all) ((DJ.init BS hf hi _ b R).congr fun j _=>(q2 j).symm) rfl
 have f:z={ fr with tmps:=z.tmps,todo:=.inRegion ops (Region.linearise.go .any ops f2 t2 l2 [])::m }:=by
   have:=s3.frame
   rw[s2] at this
   exact this
 have hnn:∀ {X:Nat→Bool} {t u st},sv ops F S E' v X n t=some (u,st)→Gh.le (g'.cut st) g' := fun _=>Gh.FB _ _
 refine⟨z,w', g', ?_,?_,?_,Steps.trans Z s1⟩
 · have D:=s3.pc
   have s:=hf.mono D
   refine⟨?_,?_,?_,?_,?_,?_,?_,?_⟩
   · rw[A,f];exact s.fn
   · rw[O.1];exact s3.LC
   · intro t u e
     obtain⟨st,Q⟩:=J t u e
     obtain⟨x,a,b⟩:=s3.wu t u st Q
     exact⟨x,a,b.mono (Gh.FB _ _)⟩
   · rw[O.2.1,s2];exact .cons (.ops (V f2 t2 l2 r1 r2 r3)) (h2.mono D)
   · rw[O.2.2.1,f];exact s.defers
   · rw[O.2.2.2,f];exact s.mode
   · rw[hk,f];exact s.kind
   · rw[B,f];exact s.round
 · refine⟨s3.ro,?_,?_,?_⟩
   · intro id o e
     rw[d] at e
     split at e<;>simp only[ba,reduceCtorEq] at e
     rename_i o' st y
     subst e
     obtain⟨l,a,b,c⟩:=s3.ob id _ st y
     exact⟨l,(Gh.ka a).2,b,c.mono (Gh.FB _ _)⟩
   · intro id id' o o' l l' e y p p' hb
     rw[d] at e y
     split at e<;>simp only[ba,reduceCtorEq] at e
     rename_i o1 st1 Q
     split at y<;>simp only[ba,reduceCtorEq] at y
     rename_i o2 M e2
     exact s3.inj id id' o1 o2 st1 M l l' Q e2 p p' hb
   · intro id bE
     cases e:g'.ph id with
     | none=>rfl
     | some l=>
       exfalso
       rw[C] at bE
       rcases s3.afx id l e with q | ⟨j,q1,_,_,q3⟩
       · have:=nb h (bU n) (bJ _)
         have h0:nn S E' 0=S.nx:=rfl
         omega
       · have:=nb h (show j+1≤n by omega) (bJ _)
         omega
 · refine⟨s3.size,s3.os,s3.tape,s3.output,s3.jr,?_,s3.pc,?_,K,?_,s3.wY,s3.C2,fun id bE e=>by rw[d,Yg h (bJ _) bE e],s3.fz⟩
   · intro id o l e hl hp hlt
     rw[d] at e
     split at e<;>simp only[ba,reduceCtorEq] at e
     rename_i o' st y
     exact s3.own id _ st l y hl hp hlt
   · rw[C];exact nb h (bU n) (bJ _)
   · intro id bE
     rw[d,LD (i:=0) (bU _)]
     · simp only[ov]
       cases S.get id<;>rfl
     · intro j _ H _
       cases hc:ch j id with
       | none=>rfl
       | some r=>
         have:=(h.afw j H id (by rw[hc];simp)).1
         have:=h.lim j H
         omega
end
end
noncomputable section
def ta (m:Nat):List (Nat×AV)→List (Nat×AV)
 | []=>[]
 | (t,v)::r=>match tb m t with
   | true=>(t,v)::ta m r
   | false=>ta m r
theorem MD {m:Nat}:∀ {l:List (Nat×AV)} {t:Nat} {v:AV},lk (ta m l) t=some v→tb m t=true∧lk l t=some v:=by
 intro l
 induction l with
 | nil=>intro t v h;simp[ta,q7] at h
 | cons a r c=>
   obtain⟨k,u⟩:=a
   intro t v h
   simp only[ta] at h
   cases b:tb m k with
   | true=>
     rw[b] at h
     simp only[iz] at h ⊢
     cases hb:Nat.beq k t<;>simp_all
   | false=>
     rw[b] at h
     have:=c h
     refine⟨this.1,?_⟩
     simp only[iz]
     cases hb:Nat.beq k t<;>simp_all
def ae.Qv (F:ae)(d l:Nat)(k:List bg):ae:={ F with todo:=.zp l::k,defers:=.nq d::F.defers }
def ae.qI (F:ae)(d l:Nat)(k:List bg):gL→ae
 | .ret _=>{ F with todo:=.n9 l::k,defers:=.nq d::F.defers }
 | .wh c=>{ F.Qv d l k with mode:=.panicking c }
def ae.Zr (F:ae)(S:ag)(params:Array Tmp)(assign body:Code):ag:=
 (S.add (.df true)).add (.lp .ready none F.fn F.n F.mask (ta F.mask F.qX) params.toList assign body)
variable {P : Program} {F : ae} {S : ag} {G : ae → ag → Prop} {k : List bg} {assign body : Code}
theorem Reach.rangeFunc {f:Operand}{params:Array Tmp}{fn:FuncId}{first cap:List AV}{Q:gL→ag→Prop}(hm:F.mode=.run)(ht:F.todo=.code (.rangeFunc f params assign body)::k)(hr:F.round=none)(hf0:F.eval f=some (.fn (.func fn) first cap))(hb:nz P fn=true)(h1:Ok (S.nx+1))(h2:S.lim≤S.nx)(hc:fY P fn (first++[.sj (S.nx+1)]++cap) (F.Zr S params assign body) Q)(h:∀ r S', Q r S' → Reach P (F.qI S.nx (S.nx+1) k r) S' G):Reach P F S G:=by
 intro g w fr O cs hf hcs hi
 have z:=hf.runs hm
 have hro:=hf.JQ hr
 have C:=hf.todo
 rw[ht] at C
 generalize Z:fr.todo=td at C
 cases C with | cons q1 q2=>?_
 cases q1
 rename_i m
 have R:=Ld.of hf f _ hf0
 generalize hfv:fr.eval f=fv at R
 cases R with | fn hx hy hxr hyr=>?_
 rename_i xs ys
 obtain⟨i1,e1⟩:=hi.alloc (w' := w.alloc (.deferred (some []))) (by omega) (o:=.df true) (ob:=.deferred (some [])) (l:=⟨w.heap.size,0,0,0⟩) rfl rfl rfl rfl ⟨rfl,bJ _⟩ rfl h2
 have D:=hf.mono e1.pc
 obtain ⟨i2,e2⟩:=i1.alloc (w' := (w.alloc (.deferred (some []))).alloc (.loop { state:=.ready,pending:=none,fn:=fr.fn,tmps:=fr.tmps,params,assign,body,defers:=w.heap.size })) (by show Ok (S.nx+1);omega)
   (o:=.lp .ready none F.fn F.n F.mask (ta F.mask F.qX) params.toList assign body) (ob:=.loop { state:=.ready,pending:=none,fn:=fr.fn,tmps:=fr.tmps,params,assign,body,defers:=w.heap.size })
   (l := ⟨w.heap.size+1,0,0,0⟩) (by simp) ⟨_,rfl,rfl,rfl,D.fn,D.size,fun t v e=>by
     obtain⟨a,b⟩:=MD e
     exact D.get t v (by simp only[ae.get,a];exact b),by simp,rfl,rfl⟩ rfl rfl ⟨rfl,bJ _⟩ rfl (by show S.lim≤S.nx+1;omega)
 have he:=e1.trans e2
 generalize T:(g.add S.nx ⟨w.heap.size,0,0,0⟩).add (S.add (.df true)).nx ⟨w.heap.size+1,0,0,0⟩=N at *
 generalize hw2:(w.alloc (.deferred (some []))).alloc (.loop { state:=.ready,pending:=none,fn:=fr.fn,tmps:=fr.tmps,params,assign,body,defers:=w.heap.size })=M at *
 have hl:N.ph (S.nx+1)=some ⟨w.heap.size+1,0,0,0⟩:=by rw[←T];exact Gh.add_same _ _ _
 have hd:N.ph S.nx=some ⟨w.heap.size,0,0,0⟩:=by rw[←T,Gh.fu _ _ (by show S.nx≠S.nx+1;omega)];exact Gh.add_same _ _ _
 have hf2:=hf.mono he.pc
 obtain⟨uh,j⟩:∃ x:Frame,x={ fr with todo:=.inRangeFunc (w.heap.size+1)::m,defers:={ target:=.collected w.heap.size,args := #[] }::fr.defers }:=⟨_,rfl⟩
 have hev' : uh.eval f=.func (.func fn) xs ys:=by rw[←hfv,j];cases f<;>rfl
 have hev2:uh.eval (.const (.func (.yield (w.heap.size+1)) #[] #[]))=.func (.yield (w.heap.size+1)) #[] #[]:=by rw[j];rfl
 have J:(do let d←resolve uh.eval { callee:=.value f,args := #[.const (.func (.yield (w.heap.size+1)) #[] #[])],argTypes := #[] } 0;invoke d.target d.args:Sem Next).run P M =
     .ok (.enter fn (xs ++ #[.func (.yield (w.heap.size+1)) #[] #[]]++ys)) M:=by
   simp only[resolve,Sem.run_bind,Sem.run_pure,Result.andThen_ok,invoke,hev', Deferred.ofValue,List.map_toArray,dH,sH,hev2,mW hb]
 have hent:(Instr.enterLoop fr.fn fr.tmps params assign body fr.roundOf).run P w=.ok (w.heap.size+1,[{ target:=.collected w.heap.size,args := #[] }]) M:=by
   rw[hro,←hw2]
   simp[Instr.enterLoop]
 have hst:step P (lone fr cs w)=.next (lone (Frame.enter P fn (xs ++ #[.func (.yield (w.heap.size+1)) #[] #[]]++ys) .normal) (uh::cs) M):=by
   refine step_lone_go ?_
   have hft:uh.todo=.inRangeFunc (w.heap.size+1)::m:=by rw[j]
   have K:({ fn:=fr.fn,tmps:=fr.tmps,todo:=.inRangeFunc (w.heap.size+1)::m,defers:={ target:=.collected w.heap.size,args := #[] }::fr.defers,mode:=.run,kind:=fr.kind,roundOf:=fr.roundOf }:Frame)=uh:=by rw[j,z]
   simp only[stepG,stepG.exec,z,Z,Sem.runT_eq,hent,GStep.bare_after,FC,K]
   simp[stepG.apply,J,hft]
 have L:hM N (first++[.sj (S.nx+1)]++cap) (xs ++ #[.func (.yield (w.heap.size+1)) #[] #[]]++ys):=
   hM.append (hM.append ⟨hx,fun a b c d e=>(hxr a b c d e).mono he.pc⟩ (hM.cons (xs:=[]) (.sj hl) (hM.nil N))) ⟨hy,fun a b c d e=>(hyr a b c d e).mono he.pc⟩
 obtain⟨e,w', U,⟨r,S', g', hq,q,hi', E⟩,s,_,u⟩:=hc N M _ L i2 (uh::cs)
 have y:=he.trans E
 have go:∀ A,step P (lone U (uh::cs) w')=.next (lone A cs w')→m8 P g' (F.qI S.nx (S.nx+1) k r) A→Steps P (lone (Frame.enter P fn (xs ++ #[.func (.yield (w.heap.size+1)) #[] #[]]++ys) .normal) (uh::cs) M) (lone U (uh::cs) w') →
     ∃ F' H B I V W,G F' H∧m8 P B F' V∧wZ B F' O W∧F'.kind=F.kind∧F'.fn=F.fn∧F'.round=F.round∧Inv H B I∧Ext S g w H B I∧Steps P (lone fr cs w) (lone V W I):=by
   intro A hst2 hfr hs1
   have p:(F.qI S.nx (S.nx+1) k r).kind=F.kind∧(F.qI S.nx (S.nx+1) k r).fn=F.fn∧(F.qI S.nx (S.nx+1) k r).round=F.round∧(F.qI S.nx (S.nx+1) k r).cm=F.cm:=by
     cases r<;>exact⟨rfl,rfl,rfl,rfl⟩
   obtain⟨F2,S2,g3,w3,fr3,cs2,q', p1,p2,p3,p4,p5,p6,p7,p8⟩:=h r S' hq g' w' A O cs hfr ((hcs.mono y.pc).congr p.1 p.2.2.2) hi'
   exact⟨F2,S2,g3,w3,fr3,cs2,q', p1,p2,p3.trans p.1,p4.trans p.2.1,p5.trans p.2.2.1,p6,y.trans p7,Steps.head hst (Steps.trans hs1 (Steps.head hst2 p8))⟩
 have i:=hf.mono y.pc
 have X:=E.pc.ph _ _ hl
 have Y:=E.pc.ph _ _ hd
 cases r with
 | ret v=>
   cases e with
   | returned x=>
     refine go _ (step_leave_returned u) ?_ s
     rw[j]
     exact⟨i.fn,i.size,i.get,.cons (.n9 X) (q2.mono y.pc),.nq Y i.defers,i.mode,i.kind,i.round⟩
   | panicked c=>exact q.elim
   | outgrown=>exact q.elim
 | wh l=>
   cases e with
   | returned x=>exact q.elim
   | panicked c=>
     refine go _ (step_leave_panicked u) ?_ s
     have:uh.raise c={ uh with mode:=.panicking c }:=by simp[Frame.raise,j,z]
     rw[this,j]
     exact⟨i.fn,i.size,i.get,.cons (.zp X) (q2.mono y.pc),.nq Y i.defers,.panicking q,i.kind,i.round⟩
   | outgrown=>exact q.elim
def On (pend:Option Code)(k:List bg):List bg:=
 match pend with
 | some c=>.code c::k
 | none=>k
variable {id : Nat} {st : LoopState} {pend : Option Code} {fn n mask : Nat} {env : List (Nat × AV)} {params : List Tmp}
theorem Reach.n9 (q:F.mode=.run)(r:F.todo=.n9 id::k)(f:S.get id=some (.lp st pend fn n mask env params assign body))(I:(st == .busy)=false)(s:S.lim≤id)(h:Reach P { F with todo:=On pend k,loc:=[] } (S.set id (.lp .exhausted pend fn n mask env params assign body)) G):Reach P F S G:=by
 refine h.DS rfl rfl rfl rfl fun g w fr cs hf hi=>?_
 have i:=hf.runs q
 have a:=hf.todo
 rw[r] at a
 generalize o:fr.todo=td at a
 cases a with | cons t q2=>?_
 cases t
 rename_i m l b
 obtain⟨l', d,a2,a3⟩:=hi.ob _ _ f
 rw[b] at d;simp only[ba] at d;subst d
 obtain⟨lo,u,K,v,x,y,z,A,B,C⟩:=a3
 have J:=(y8.1 u).1
 have p:(Instr.endLoop l.cU).run P w=.ok pend { w with heap:=w.heap.setIfInBounds l.cU (.loop { lo with state:=.exhausted }) }:=by
  simp_all[Instr.endLoop,Instr.getLoop,getObj,Sem.run,setObj]
 obtain ⟨D,E⟩:=hi.jz (w' := { w with heap:=w.heap.setIfInBounds l.cU (.loop { lo with state:=.exhausted }) }) (ob' := .loop { lo with state:=.exhausted }) (o' := .lp .exhausted pend fn n mask env params assign body) f s b (by simp)
  (by simp_all) (by intro j H;show(w.heap.setIfInBounds l.cU _)[j]? = _;rw[ny,if_neg (Ne.symm H)]) rfl ⟨rfl,bJ _⟩ rfl
  ⟨_,rfl,rfl,v,x,y,z,A,B,C⟩
 have e:nK g (On pend k) ((pend.map Item.code).toList++m):=by
  cases pend with
  | none=>exact q2
  | some c=>exact .cons .code q2
 refine⟨{ fr with todo:=(pend.map Item.code).toList++m },_,g,hf.aab e,D,E,.one (step_lone_go ?_)⟩
 simp_all[stepG,stepG.exec]
theorem Reach.nq {P:Program}{F:ae}{S:ag}{G:ae→ag→Prop}{id:Nat}{ds:List hU}(p:F.mode ≠ .run)(q:F.defers=.nq id::ds)(o:S.get id=some (.df true))(r:S.lim≤id)
  (h:Reach P { F with defers:=ds } (S.set id (.df false)) G):Reach P F S G:=by
 refine h.DS rfl rfl rfl rfl fun g w fr cs hf hi=>?_
 have a:=hf.defers
 rw[q] at a
 generalize f:fr.defers=A at a
 cases a with | nq b s=>?_
 rename_i l m
 have y:fr.mode ≠ .run:=by
  intro e
  have:=hf.mode
  rw[e] at this
  generalize i:F.mode=B at this
  cases this
  exact p i
 obtain⟨l', d,a2,a3⟩:=hi.ob _ _ o
 rw[b] at d;simp only[ba] at d;subst d
 have t:w.heap[l.cU]? = some (.deferred (some [])):=a3
 have z:=(y8.1 t).1
 have c:(Instr.takeDeferred l.cU).run P w=.ok [] { w with heap:=w.heap.setIfInBounds l.cU (.deferred none) }:=by
  simp_all[Instr.takeDeferred,getObj,Sem.run,setObj]
 obtain ⟨v,x⟩:=hi.jz (w' := { w with heap:=w.heap.setIfInBounds l.cU (.deferred none) }) (ob' := .deferred none) (o' := .df false) o r b (by simp)
  (by simp_all) (by simp_all[Ne.symm]) rfl ⟨rfl,bJ _⟩ rfl rfl
 refine⟨{ fr with defers:=m },_,g,⟨hf.fn,hf.size,hf.get,hf.todo,s,hf.mode,hf.kind,hf.round⟩,v,x,.one (step_lone_go ?_)⟩
 have j:∀ u,fr.mode=u→stepG P true { frame:=fr,callers:=cs,status:=.running,dying:=none } w=Go.unwind P true fr cs none w:=by
  simp_all[stepG]
 rw[j _ rfl]
 simp[Go.unwind,f,Sem.runT_eq,c]
theorem Reach.N0 (r:F.mode=.run)(s:F.todo=.N0::k)(t:F.round=some id)(f:S.get id=some (.lp .ready pend fn n mask env params assign body))(u:S.lim≤id)(h:Reach P { F with todo:=k } (S.set id (.lp .busy pend fn n mask env params assign body)) G):Reach P F S G:=by
 refine h.DS rfl rfl rfl rfl fun g w fr cs hf hi=>?_
 have i:=hf.runs r
 have c:=hf.todo
 rw[s] at c
 generalize o:fr.todo=td at c
 cases c with | cons v q2=>?_
 cases v
 rename_i m
 obtain⟨l,x,a2,a3⟩:=hi.ob _ _ f
 have a:=hf.round
 rw[t] at a
 have p:fr.roundOf=some l.cU:=by
  cases e:fr.roundOf with
  | none=>rw[e] at a;exact a.elim
  | some b=>rw[e] at a;obtain⟨l', c1,c2⟩:=a;simp_all
 obtain⟨lo,y,L,z,A,B,C,D,E,H⟩:=a3
 have d:=(y8.1 y).1
 have q:(Instr.beginRound l.cU).run P w=.ok () { w with heap:=w.heap.setIfInBounds l.cU (.loop { lo with state:=.busy }) }:=by
  simp_all[Instr.beginRound,Instr.getLoop,Sem.run_bind,getObj,Sem.run,Result.andThen_ok,Sem.run_pure,setObj]
 obtain ⟨I,J⟩:=hi.jz (w' := { w with heap:=w.heap.setIfInBounds l.cU (.loop { lo with state:=.busy }) }) (ob' := .loop { lo with state:=.busy }) (o' := .lp .busy pend fn n mask env params assign body) f u x (by simp)
  (by show(w.heap.setIfInBounds l.cU _)[l.cU]? = _;simp[d]) (by intro j K;show(w.heap.setIfInBounds l.cU _)[j]? = _;rw[ny,if_neg (Ne.symm K)]) rfl ⟨rfl,bJ _⟩ rfl
  ⟨_,rfl,rfl,z,A,B,C,D,E,H⟩
 refine⟨{ fr with todo:=m },_,g,hf.with q2,I,J,.one (step_lone_go ?_)⟩
 simp_all[stepG,stepG.exec,stepG.apply,Frame.finish]
def Rm (n mask:Nat):List (Nat×AV)→List Tmp→List AV→List (Nat×AV)
 | env,t::ts,v::a=>match tb mask t,Nat.ble (t+1) n with
   | true,true=>Rm n mask (up env t v) ts a
   | _,_=>Rm n mask env ts a
 | env,_,_=>env
def ux (id fn n mask:Nat)(env:List (Nat×AV))(params:List Tmp)(assign body:Code)(args:List AV):ae:=
 { fn:=fn,n:=n,mask:=mask,loc:=[],qX:=Rm n mask env params args,todo:=[.code assign,.N0,.code body],defers:=[],mode:=.run,kind:=.normal,cm:=.run,round:=some id }
theorem F7 : ∀(l:List (Tmp×Value)) (tmps:Array Value),(l.foldl (fun tmps (x:Tmp×Value)=>tmps.setIfInBounds x.1 x.2) tmps).size=tmps.size:=by
 intro l
 induction l<;>simp_all
theorem F8 {g:Gh}:∀ {params:List Tmp} {args:List AV} {xs:List Value} {env:List (Nat×AV)} {tmps:Array Value},tmps.size=n→args.length=params.length→hM g args xs.toArray →
   (∀ t v,tb mask t=true→lk env t=some v→∃ x,tmps[t]? = some x∧VR g v x) →
   ∀ t v,tb mask t=true→lk (Rm n mask env params args) t=some v→∃ x,((params.zip xs).foldl (fun tmps (x:Tmp×Value)=>tmps.setIfInBounds x.1 x.2) tmps)[t]? = some x∧VR g v x:=by
 intro params
 induction params with
 | nil=>
   simp_all[Rm]
 | cons p C s=>
   intro args xs env tmps o B hx j t v f e
   cases args with
   | nil=>simp at B
   | cons a as=>
     cases xs with
     | nil=>have:=hx.1;simp at this
     | cons x xs=>
       have z:VR g a x:=hx.2 0 a x rfl rfl
       have l:hM g as xs.toArray:=⟨by have:=hx.1;simpa using this,fun k b y c d=>hx.2 (k+1) b y (by simpa using c) (by simpa using d)⟩
       simp only[List.zip_cons_cons,List.foldl_cons]
       have m:as.length=C.length:=by simpa using B
       have i:(tb mask p=false∨¬ p<n)→∀ t v,tb mask t=true→lk env t=some v→∃ y,(tmps.setIfInBounds p x)[t]? = some y∧VR g v y:=by
         intro A t v f e
         obtain⟨y,r,u⟩:=j t v f e
         refine⟨y,?_,u⟩
         rw[ny]
         by_cases h:p=t
         · subst h
           exfalso
           rcases A with q | q
           · rw[q] at f;simp at f
           · exact q (o▸(y8.1 r).1)
         · rw[if_neg h];exact r
       simp only[Rm] at e
       cases w:tb mask p with
       | false=>
         rw[w] at e
         exact s (by simpa using o) m l (i (.inl w)) t v f e
       | true=>
         rw[w] at e
         cases hb:Nat.ble (p+1) n with
         | false=>
           rw[hb] at e
           exact s (by simpa using o) m l (i (.inr fun q=>by rw[EY q] at hb;simp at hb)) t v f e
         | true=>
           rw[hb] at e
           have D:=gb hb
           refine s (env:=up env p a) (by simpa using o) m l (fun t v f e=>?_) t v f e
           by_cases h:t=p
           · subst h
             rw[vM] at e;simp only[ba] at e;subst e
             exact⟨x,by simp[show t<tmps.size by omega],z⟩
           · rw[tO _ _ h] at e
             obtain⟨y,r,u⟩:=j t v f e
             exact⟨y,by rw[ny,if_neg (Ne.symm h)];exact r,u⟩
def C4 : List bg→Option Code
 | .code .ret::_=>some .ret
 | .code (.exit b)::k=>match tE b k with
   | none=>some (.exit b)
   | some _=>none
 | _=>none
def Ll (id:Nat)(F' : ae)(a:ag)(Q:gL→ag→Prop):Prop:=
 F'.defers=[]∧((F'.mode=.run∧∃ st pend fn n mask env params assign body,a.get id=some (.lp st pend fn n mask env params assign body)∧a.lim≤id ∧
   ((F'.todo=[]∧Q (.ret (.sc (.bool true))) (a.set id (.lp .ready none fn n mask env params assign body))) ∨
    ∃ c,C4 F'.todo=some c∧Q (.ret (.sc (.bool false))) (a.set id (.lp .done (some c) fn n mask env params assign body)))) ∨
  ∃ l,F'.mode=.panicking l∧Q (.wh l) a)
theorem Reach.aeg {all:Array Oper}{i:Nat}{rest:List Nat}{o:Oper}{args:List AV}{fnc:Func}(hm:F.mode=.run)(ht:F.todo=.ops all (i::rest)::k)(ho:all[i]? = some o)(hg:tx F all o=some true)(hsp:ct o.op=false)(ha:gJ P F.eval S o.op=some (.sj id args))(hlp:S.get id=some (.lp st pend fn n mask env params assign body))(V:args.length=params.length)(hfn:P.funcs[fn]? = some fnc)(h:Reach P (ux id fn n mask env params assign body args) S fun F' S' => Ll id F' S' fun r q=>Reach P (F.back o all rest k r) q G):Reach P F S G:=by
 intro g w fr cs0 cs hf hcs hi
 obtain⟨m,e1,e2⟩:=hf.split ht ho
 obtain⟨l,xs,r0,r1,r2⟩:=kd hi (Ld.of hf) ha
 have W:=hf.runs hm
 obtain⟨l', a1,a2,a3⟩:=hi.ob _ _ hlp
 rw[r0] at a1;simp only[ba] at a1;subst a1
 obtain⟨lo,b1,b2,b3,b4,b5,b6,b7,b8,b9⟩:=a3
 have hsz:xs.size=lo.params.size:=by rw[b7,←r2.1,V];simp
 have hy:(Instr.yield l.cU xs).run P w=.ok (.round l.cU lo.fn ((lo.params.zip xs).foldl (fun tmps (x:Tmp×Value)=>tmps.setIfInBounds x.1 x.2) lo.tmps) lo.assign lo.body) w:=by
   simp[Instr.yield,Instr.getLoop,Sem.run_bind,getObj,Sem.run,b1,hsz]
 rw[hy] at r1
 obtain⟨DL,X⟩:∃ x:Frame,x=Frame.round l.cU lo.fn ((lo.params.zip xs).foldl (fun tmps (x:Tmp×Value)=>tmps.setIfInBounds x.1 x.2) lo.tmps) lo.assign lo.body .normal:=⟨_,rfl⟩
 have hs:=gQ (P:=P) (cs:=cs) (w:=w) W e1 ho (lv hf hg) (.inr hsp)
 have hst:step P (lone fr cs w)=.next (lone DL (fr::cs) w):=by
   refine step_lone_go ?_
   rw[hs,X]
   simp[stepG.apply,r1]
 have hfold:(lo.params.zip xs).foldl (fun tmps (x:Tmp×Value)=>tmps.setIfInBounds x.1 x.2) lo.tmps=(params.zip xs.toList).foldl (fun tmps (x:Tmp×Value)=>tmps.setIfInBounds x.1 x.2) lo.tmps:=by
   rw[←Array.foldl_toList,Array.toList_zip,b7]
 have hFR:m8 P g (ux id fn n mask env params assign body args) DL:=by
   rw[X,hfold]
   refine⟨b4,?_,?_,.cons (by rw[b8];exact .code) (.cons .N0 (.cons (by rw[b9];exact .code) .nil)),.nil,.run,rfl,⟨l,r0,rfl⟩⟩
   · show((params.zip xs.toList).foldl _ lo.tmps).size=n
     rw[F7];exact b5
   · intro t v e
     simp only[ae.get,ux] at e
     split at e
     · rename_i hmt
       exact F8 b5 V (by simpa using r2) (fun t v _ e=>b6 t v e) t v hmt e
     · simp[q7] at e
 obtain⟨F', S', g', w', d,Q,⟨hd,O⟩,p1,p2,p3,p4,p5,p6,p7,p8⟩:=h g w DL (fr::cs) (fr::cs) hFR (by simp[wZ,ux]) hi
 have hk:F'.kind=.normal:=p3
 have hcs' : Q=fr::cs:=by unfold wZ at p2;rw[hk] at p2;exact p2
 subst hcs'
 have hfn' : d.fn=fn:=p1.fn.trans p4
 have hdf:d.defers=[]:=by have:=p1.defers;rw[hd] at this;exact this.JA
 have hkd:d.kind=.normal:=p1.kind.trans hk
 have u:d.roundOf=some l.cU:=by
   have H:=p1.round
   rw[p5] at H
   have hl' := p7.pc.ph _ _ r0
   cases e:d.roundOf with
   | none=>rw[e] at H;exact H.elim
   | some b=>rw[e] at H;obtain⟨l2,c1,c2⟩:=H;rw[hl'] at c1;simp only[ba] at c1;subst c1;rw[c2]
 have fin:∀(r:gL) (q:ag) (s:World) (R:Frame),Reach P (F.back o all rest k r) q G→Inv q g' s→Ext S' g' w' q g' s→step P (lone d (fr::cs) w')=.next (lone R cs s)→m8 P g' (F.back o all rest k r) R →
     ∃ F' q T s d Q,G F' q∧m8 P T F' d∧wZ T F' cs0 Q∧F'.kind=F.kind∧F'.fn=F.fn∧F'.round=F.round∧Inv q T s∧Ext S g w q T s∧Steps P (lone fr cs w) (lone d Q s):=by
   intro r q s R hR hI hE hst2 hfr2
   have p:(F.back o all rest k r).kind=F.kind∧(F.back o all rest k r).fn=F.fn∧(F.back o all rest k r).round=F.round∧(F.back o all rest k r).cm=F.cm:=by
     cases r with
     | ret v=>exact F.iO o v all rest k
     | wh l=>exact⟨rfl,rfl,rfl,rfl⟩
   have hxx:=p7.trans hE
   obtain⟨F2,S2,g3,w3,fr3,cs2,q', z1,z2,z3,z4,z5,z6,z7,z8⟩:=hR g' s R cs0 cs hfr2 ((hcs.mono hxx.pc).congr p.1 p.2.2.2) hI
   exact⟨F2,S2,g3,w3,fr3,cs2,q', z1,z2,z3.trans p.1,z4.trans p.2.1,z5.trans p.2.2.1,z6,hxx.trans z7,Steps.head hst (Steps.trans p8 (Steps.head hst2 z8))⟩
 have y:=hf.mono p7.pc
 have e2x:=e2.mono p7.pc
 rcases O with⟨hmr,st2,pend2,fn2,n2,L,Y,params2,B,M,Z,hlim2,O⟩ | ⟨lch,hmp,O⟩
 · have C:=p1.runs hmr
   obtain⟨l2,c1,c2,c3⟩:=p6.ob _ _ Z
   rw[p7.pc.ph _ _ r0] at c1;simp only[ba] at c1;subst c1
   obtain⟨I,d1,d2,d3,d4,d5,d6,d7,d8,d9⟩:=c3
   have hlt:=(y8.1 d1).1
   have J:∀ a,(Instr.endRound l.cU a).run P w' = .ok (.bool a.isNone) { w' with heap:=w'.heap.setIfInBounds l.cU (.loop { I with state:=if a.isNone then .ready else .done,pending:=a }) }:=by
     intro a
     simp only[Instr.endRound,Instr.getLoop,Sem.run_bind,getObj,Sem.run,d1,Result.andThen_ok,Sem.run_pure]
     simp[setObj,Sem.run,d1]
   have hupd:∀(E:LoopState) (a:Option Code),Inv (S'.set id (.lp E a fn2 n2 L Y params2 B M)) g' { w' with heap:=w'.heap.setIfInBounds l.cU (.loop { I with state:=E,pending:=a }) } ∧
       Ext S' g' w' (S'.set id (.lp E a fn2 n2 L Y params2 B M)) g' { w' with heap:=w'.heap.setIfInBounds l.cU (.loop { I with state:=E,pending:=a }) }:=by
     intro E a
     exact p6.jz (ob' := .loop { I with state:=E,pending:=a }) Z hlim2 (p7.pc.ph _ _ r0) (by simp)
       (by show(w'.heap.setIfInBounds l.cU _)[l.cU]? = _;simp[hlt]) (by intro j hj;show(w'.heap.setIfInBounds l.cU _)[j]? = _;rw[ny,if_neg (Ne.symm hj)]) rfl ⟨rfl,bJ _⟩ rfl
       ⟨_,rfl,rfl,rfl,d4,d5,d6,d7,d8,d9⟩
   have N:∀ b:Bool,m8 P g' (F.back o all rest k (.ret (.sc (.bool b)))) (fr.finish (.bool b)):=fun b=>y.after e1 e2x ho (.sc rfl)
   have z:=p1.todo
   rcases O with⟨htn,O⟩ | ⟨c,f,O⟩
   · rw[htn] at z
     generalize A:d.todo=td at z
     cases z
     obtain⟨u1,u2⟩:=hupd .ready none
     refine fin _ _ _ (fr.finish (.bool true)) O u1 u2 (step_lone_go ?_) (N true)
     simp[stepG,stepG.exec,C,A,u,Sem.runT_eq,J,doReturn,hkd]
   · obtain⟨u1,u2⟩:=hupd .done (some c)
     have hgo:step P (lone d (fr::cs) w')=.next (lone (fr.finish (.bool false)) cs { w' with heap:=w'.heap.setIfInBounds l.cU (.loop { I with state:=.done,pending:=some c }) }):=by
       refine step_lone_go ?_
       generalize htodo:F'.todo=T' at z f
       unfold C4 at f
       split at f
       · simp only[ba] at f;subst f
         generalize A:d.todo=td at z
         cases z with | cons y1 y2=>?_
         cases y1
         simp[stepG,stepG.exec,C,A,u,Sem.runT_eq,J,doReturn,hkd]
       · split at f<;>simp only[ba,reduceCtorEq] at f
         rename_i xid bb hexq hex
         subst f
         generalize A:d.todo=td at z
         cases z with | cons y1 y2=>?_
         cases y1
         have K:=xF (id:=xid) y2
         rw[hex] at K
         simp only at K
         simp[stepG,stepG.exec,C,A,K,u,Sem.runT_eq,J,doReturn,hkd]
       · simp at f
     exact fin _ _ _ (fr.finish (.bool false)) O u1 u2 hgo (N false)
 · have D:=p1.mode
   rw[hmp] at D
   obtain⟨mm,hm', hch⟩:∃ m,d.mode=.panicking m∧ia g' lch m:=by generalize d.mode=md at D ⊢;cases D with | panicking h=>exact⟨_,rfl,h⟩
   have U:d.going P w' (.panicked mm):=⟨hm', hdf,fnc,by rw[hfn'];exact hfn⟩
   refine fin (.wh lch) S' w' (fr.raise mm) O p6 (Ext.refl _ _ _) (step_leave_panicked U) ?_
   have:fr.raise mm={ fr with mode:=.panicking mm }:=by simp[Frame.raise,W]
   rw[this]
   exact⟨y.fn,y.size,y.get,y.todo,y.defers,.panicking hch,y.kind,y.round⟩
end
noncomputable section
def Vg (P:Program)(ρ:Operand→Option AV)(S:ag)(x:Operand):Option dg:=
 mP S (ρ x)
def O2 (P:Program)(ρ:Operand→Option AV)(S:ag)(x:Operand):Option dg:=
 mP S (ρ x)
def Vh (P:Program)(ρ:Operand→Option AV)(S:ag)(c:Operand)(a:Operand)(b:Operand):Option dg:=
 match ρ c with
 | some (.sc (.bool true))=>mP S (ρ a)
 | some (.sc (.bool false))=>mP S (ρ b)
 | _=>none
def RL (P:Program)(ρ:Operand→Option AV)(S:ag)(t:TypeId):Option dg:=
 match ja P t with
 | some z=>DK (Im S z)
 | none=>none
def Yh (P:Program)(ρ:Operand→Option AV)(S:ag)(x:Operand):Option dg:=
 match ρ x with
 | some v=>DK (Im S v)
 | none=>none
def RM (P:Program)(ρ:Operand→Option AV)(S:ag)(t:TypeId)(a:Array (Nat×Operand)):Option dg:=
 match xd ρ a.toList with
 | some l=>mP S (EF P t l)
 | none=>none
def Gz (P:Program)(ρ:Operand→Option AV)(S:ag)(t:TypeId)(n:Nat)(a:Array (Nat×Operand)):Option dg:=
 match xd ρ a.toList with
 | some l=>DK (oz P S t n l)
 | none=>none
def Vi (P:Program)(ρ:Operand→Option AV)(S:ag)(t:TypeId)(a:Operand):Option dg:=
 match ρ a with
 | some p=>match ld S p with
   | some cs=>mP S (um P t cs)
   | none=>none
 | none=>none
def RN (P:Program)(ρ:Operand→Option AV)(S:ag)(t:TypeId)(a:Operand)(x:Operand):Option dg:=
 match ρ a,ρ x with
 | some p,some v=>NT (x5 P S t p v)
 | _,_=>none
def Kh (P:Program)(ρ:Operand→Option AV)(S:ag)(x:Operand):Option dg:=
 match ρ x with
 | some (.ptr id i j)=>some (.val (.ptr id i j) S)
 | some (.dO cs)=>some (.val (.dO cs) S)
 | some (.fn (.func f) a b)=>some (.val (.fn (.func f) a b) S)
 | some (.sj id)=>some (.val (.sj id) S)
 | some (.eB t v)=>some (.val (.eB t v) S)
 | some y=>match Qh P y with
   | true=>some (.val y S)
   | false=>none
 | none=>none
def RO (P:Program)(ρ:Operand→Option AV)(S:ag)(op:BinOp)(t:TypeId)(x:Operand)(y:Operand):Option dg:=
 match ρ x,ρ y with
 | some (.sc .nilIface),some (.sc .nilIface)=>match P.underlying t with
   | some (.interface _)=>match uS x||uS y with
     | true=>mP S (n8 op true)
     | false=>none
   | _=>none
 | some a,some b=>mP S (uP P op t a b)
 | _,_=>none
def Vj (P:Program)(ρ:Operand→Option AV)(S:ag)(op:UnOp)(x:Operand):Option dg:=
 match ρ x with
 | some a=>mP S (Tj op a)
 | none=>none
def ME (P:Program)(ρ:Operand→Option AV)(S:ag)(s:TypeId)(d:TypeId)(x:Operand):Option dg:=
 match ρ x with
 | some a=>mP S (Fx P s d a)
 | none=>none
def BA (P:Program)(ρ:Operand→Option AV)(S:ag)(t:TypeId)(x:Operand):Option dg:=
 match P.underlying t,ρ x with
 | some (.interface _),_=>none
 | some _,some v=>some (.val (.eB t v) S)
 | _,_=>none
def Ki (P:Program)(ρ:Operand→Option AV)(S:ag)(f:Fn)(a:Array Operand)(b:Array Operand):Option dg:=
 match rA ρ a.toList,rA ρ b.toList with
 | some x,some y=>some (.val (.fn f x y) S)
 | _,_=>none
def MF (P:Program)(ρ:Operand→Option AV)(S:ag)  : Option dg:=
 DK (ym S)
def HB (P:Program)(ρ:Operand→Option AV)(S:ag)(t:TypeId)(l:Operand)(c:Operand):Option dg:=
 match ρ l,ρ c with
 | some x,some y=>DK (nT P S t x y)
 | _,_=>none
def RP (P:Program)(ρ:Operand→Option AV)(S:ag)(t:TypeId)(x:Operand)(lo:Option Operand)(hi:Option Operand):Option dg:=
 match ρ x,(match lo with
  | none=>some none
  | some a=>match ρ a with
    | some v=>some (some v)
    | none=>none),(match hi with
  | none=>some none
  | some a=>match ρ a with
    | some v=>some (some v)
    | none=>none) with
 | some a,some l,some h=>mP S (vH P S t a l h)
 | _,_,_=>none
def Vk (P:Program)(ρ:Operand→Option AV)(S:ag)(t:TypeId)(x hi b:Operand):Option dg:=
 match ρ x,ρ hi,ρ b with
 | some a,some h,some m=>mP S (Jw P t a h m)
 | _,_,_=>none
def Yi (P:Program)(ρ:Operand→Option AV)(S:ag)(t:TypeId)(x lo hi b:Operand):Option dg:=
 match ρ x,ρ lo,ρ hi,ρ b with
 | some a,some l,some h,some m=>mP S (Qg P t a l h m)
 | _,_,_,_=>none
def HC (P:Program)(ρ:Operand→Option AV)(S:ag)(s:TypeId)(x:Operand)(f:Nat):Option dg:=
 match ρ x with
 | some a=>mP S (tP P s a f)
 | none=>none
def RR (P:Program)(ρ:Operand→Option AV)(S:ag)(t:TypeId)(x:Operand)(f:Nat):Option dg:=
 match ρ x with
 | some a=>mP S (ED P t a f)
 | none=>none
def HD (P:Program)(ρ:Operand→Option AV)(S:ag)(t:TypeId)(x:Operand)(c:Operand):Option dg:=
 match ρ x,ρ c with
 | some a,some b=>mP S (dQ P S t a.q6 b)
 | _,_=>none
def RS (P:Program)(ρ:Operand→Option AV)(S:ag)(t:TypeId)(x:Operand)(c:Operand):Option dg:=
 match ρ x,ρ c with
 | some a,some b=>mP S (og P t a b)
 | _,_=>none
def O3 (P:Program)(ρ:Operand→Option AV)(S:ag)(t:TypeId)(x:Operand)(c:Operand)(ok:Bool):Option dg:=
 match ρ x,ρ c with
 | some a,some b=>mP S (s9 P S t a b ok)
 | _,_=>none
def HE (P:Program)(ρ:Operand→Option AV)(S:ag)(t:TypeId)(m:Operand)(k:Operand)(x:Operand):Option dg:=
 match ρ m,ρ k,ρ x with
 | some a,some b,some c=>NT (oq P S t a b c)
 | _,_,_=>none
def O4 (P:Program)(ρ:Operand→Option AV)(S:ag)(t:TypeId)(m:Operand)(k:Operand)(x:Operand):Option dg:=
 match ρ m,ρ k,ρ x with
 | some a,some b,some c=>NT (oq P S t a b c)
 | _,_,_=>none
def RT (P:Program)(ρ:Operand→Option AV)(S:ag)(t:TypeId)(x:Operand):Option dg:=
 match ρ x with
 | some a=>DK (x6 P S t a)
 | none=>none
def Vl (P:Program)(ρ:Operand→Option AV)(S:ag)(b:Operand)(s:Bool):Option dg:=
 match ρ b with
 | some a=>DK (zA S a s)
 | none=>none
def RU (P:Program)(ρ:Operand→Option AV)(S:ag)(b:Operand):Option dg:=
 match ρ b with
 | some a=>mP S (x7 S a)
 | none=>none
def GA (P:Program)(ρ:Operand→Option AV)(S:ag)(x:Operand)(t:TypeId)(ok:Bool):Option dg:=
 match ρ x with
 | some a=>mP S (AP P t a ok)
 | none=>none
def MG (P:Program)(ρ:Operand→Option AV)(S:ag)(t:Operand)(a:Nat):Option dg:=
 match ρ t with
 | some (.bO b)=>mP S (nth b a)
 | _=>none
def Vm (P:Program)(ρ:Operand→Option AV)(S:ag)(c:Call):Option dg:=
 xo P ρ S c
def RV (P:Program)(ρ:Operand→Option AV)(S:ag)(c:Call):Option dg:=
 match rA ρ c.args.toList with
 | some args=>match c.callee with
   | .value f=>match ρ f with
     | some (.fn (.func g) first cap)=>match nz P g with
       | true=>some (.rW g cap (first++args))
       | false=>none
     | _=>none
   | _=>none
 | none=>none
def RW (P:Program)(ρ:Operand→Option AV)(S:ag)(x:Operand):Option dg:=
 match ρ x with
 | some (.eB t v)=>some (.wh (.eB t v))
 | _=>none
def DT (P:Program)(ρ:Operand→Option AV)(S:ag)(o:Op):Option dg:=
 match o with
 | .move x=>Vg P ρ S x
 | .assign x=>O2 P ρ S x
 | .pick c a b=>Vh P ρ S c a b
 | .alloc t=>RL P ρ S t
 | .box _ x=>Yh P ρ S x
 | .build t g=>RM P ρ S t g
 | .buildSlice t n g=>Gz P ρ S t n g
 | .load t a=>Vi P ρ S t a
 | .store t a x=>RN P ρ S t a x
 | .nilCheck x=>Kh P ρ S x
 | .binOp op t x y _=>RO P ρ S op t x y
 | .unOp op _ x=>Vj P ρ S op x
 | .convert s d x=>ME P ρ S s d x
 | .makeInterface t x=>BA P ρ S t x
 | .makeFunc f a b=>Ki P ρ S f a b
 | .makeMap _ none=>MF P ρ S
 | .makeSlice t l c=>HB P ρ S t l c
 | .slice t x lo hi none=>RP P ρ S t x lo hi
 | .slice t x none (some hi) (some h)=>Vk P ρ S t x hi h
 | .slice t x (some lo) (some hi) (some h)=>Yi P ρ S t x lo hi h
 | .fieldAddr s x f=>HC P ρ S s x f
 | .field t x f=>RR P ρ S t x f
 | .indexAddr t x e=>HD P ρ S t x e
 | .index t x e=>RS P ρ S t x e
 | .lookup t x e ok=>O3 P ρ S t x e ok
 | .mapUpdate t m k x=>HE P ρ S t m k x
 | .insert t m k x=>O4 P ρ S t m k x
 | .range t x=>RT P ρ S t x
 | .next i s=>Vl P ρ S i s
 | .entry i=>RU P ρ S i
 | .typeAssert x _ t ok=>GA P ρ S x t ok
 | .extract t e=>MG P ρ S t e
 | .call c=>Vm P ρ S c
 | .defer c=>RV P ρ S c
 | .panic x=>RW P ρ S x
 | _=>none
theorem nf (P:Program)(ρ:Operand→Option AV)(S:ag)(o:Op):DT P ρ S o=gJ P ρ S o:=by
 cases o with
 | makeMap t r=>cases r<;>rfl
 | slice t x l h m=>cases m<;>cases l<;>cases h<;>rfl
 | _=>rfl
end
noncomputable section
def aac (F:ae)(t:Nat)(v:AV):ae:=
 match F with
 | ⟨fn,n,mask,loc,qX,todo,defers,mode,kind,cm,round⟩=>match Nat.ble (t+1) n with
   | true=>match tb mask t with
     | true=>⟨fn,n,mask,loc,up qX t v,todo,defers,mode,kind,cm,round⟩
     | false=>⟨fn,n,mask,(t,v)::loc,qX,todo,defers,mode,kind,cm,round⟩
   | false=>⟨fn,n,mask,loc,qX,todo,defers,mode,kind,cm,round⟩
theorem Yj (F:ae)(t:Nat)(v:AV):aac F t v=F.set t v:=by
 cases F with | mk a n m b c d e f g h i=>?_
 simp only[aac,ae.set]<;>cases Nat.ble (t+1) n<;>cases tb m t<;>rfl
def Rn (F:ae)(d:Option Tmp)(v:AV):ae:=
 match d with
 | some t=>aac F t v
 | none=>F
theorem EH (F:ae)(d:Option Tmp)(v:AV):Rn F d v=F.put d v:=by
 cases d with
 | none=>rfl
 | some t=>exact Yj F t v
def lS (F:ae)(td:List bg):ae:=
 match F with
 | ⟨fn,n,mask,loc,qX,_,defers,mode,kind,cm,round⟩=>⟨fn,n,mask,loc,qX,td,defers,mode,kind,cm,round⟩
theorem fA (F:ae)(td:List bg):lS F td={ F with todo:=td }:=rfl
def Iq (F:ae)(td:List bg):ae:=
 match F with
 | ⟨fn,n,mask,_,qX,_,defers,mode,kind,cm,round⟩=>⟨fn,n,mask,[],qX,td,defers,mode,kind,cm,round⟩
theorem LU (F:ae)(td:List bg):Iq F td={ F with todo:=td,loc:=[] }:=rfl
def T3 (F:ae)(a:dr):ae:=
 match F with
 | ⟨fn,n,mask,loc,qX,todo,defers,_,kind,cm,round⟩=>⟨fn,n,mask,loc,qX,todo,defers,a,kind,cm,round⟩
def nA (F:ae)(o:Oper)(v:AV)(all:Array Oper)(rest:List Nat)(k:List bg):ae:=lS (Rn F o.dst v) (.ops all rest::k)
theorem gz (F:ae)(o:Oper)(v:AV)(all:Array Oper)(rest:List Nat)(k:List bg):nA F o v all rest k=F.after o v all rest k:=by
 unfold nA ae.after
 rw[EH,fA]
def LK (F:ae)(o:Oper)(all:Array Oper)(rest:List Nat)(k:List bg):gL→ae
 | .ret v=>nA F o v all rest k
 | .wh l=>T3 F (.panicking l)
theorem AS (F:ae)(o:Oper)(all:Array Oper)(rest:List Nat)(k:List bg)(r:gL):LK F o all rest k r=F.back o all rest k r:=by
 cases r with
 | ret v=>exact gz F o v all rest k
 | wh l=>rfl
def af7 (F:ae):Option Nat→Option ae
 | none=>some (T3 F .returning)
 | some _=>none
def ajt (F:ae)(td:List bg)(x y:Code):Option AV→Option ae
 | some (.sc (.bool true))=>some (lS F (.code x::td))
 | some (.sc (.bool false))=>some (lS F (.code y::td))
 | _=>none
def aju (F:ae):Option (List bg)→Option ae
 | some td=>some (lS F td)
 | none=>none
def ajv (F:ae)(td:List bg):Code→Option ae
 | .ret=>af7 F F.round
 | .skip=>some (lS F td)
 | .label _=>some (lS F td)
 | .seq x y=>some (lS F (.code x :: .code y::td))
 | .cond c x y=>ajt F td x y (F.eval c)
 | .block id x=>some (lS F (.code x :: .inBlock id::td))
 | .loop x=>some (lS F (.code x :: .inLoop x::td))
 | .scope x=>some (lS F (.code x :: .inScope x::td))
 | .exit id=>aju F (tE id td)
 | .region _ all false=>some (Iq F (.ops all (List.range all.size)::td))
 | _=>none
def ajw (F:ae)(td:List bg):bg→Option ae
 | .code c=>ajv F td c
 | .inBlock _=>some (lS F td)
 | .inScope _=>some (lS F td)
 | .inLoop x=>some (lS F (.code x :: .inLoop x::td))
 | .ops _ []=>some (Iq F td)
 | _=>none
def Ro (F:ae):List bg→Option ae
 | []=>af7 F F.round
 | it::td=>ajw F td it
theorem Qw {F:ae}(a:F.mode=.run):Ro F F.todo=Rl F:=by
 obtain⟨fn,n,mask,loc,qX,todo,defers,mode,kind,cm,round⟩:=F
 simp only at a
 subst a
 cases todo with
 | nil=>cases round<;>rfl
 | cons b td=>
   cases b with
   | code c=>
     cases c with
     | ret=>cases round<;>rfl
     | region id all d=>cases d<;>rfl
     | cond c x y=>rfl
     | exit id=>rfl
     | _=>rfl
   | ops all l=>cases l<;>rfl
   | _=>rfl
noncomputable def af8 (l:List Oper):Nat→Option Oper:=
 List.rec (motive:=fun _=>Nat→Option Oper) (fun _=>none) (fun a _ b i=>Nat.rec (motive:=fun _=>Option Oper) (some a) (fun n _=>b n) i) l
theorem Yk : ∀(l:List Oper) (i:Nat),af8 l i=l[i]? := by
 intro l
 induction l with
 | nil=>intro i;rfl
 | cons a r b=>
   intro i
   cases i with
   | zero=>rfl
   | succ i=>exact(b i).trans (by simp)
noncomputable def N6 (all:Array Oper)(i:Nat):Option Oper:=af8 all.toList i
theorem tI (all:Array Oper)(i:Nat):N6 all i=all[i]? := by unfold N6;rw[Yk];simp
def akA (F:ae)(td:List bg):dr→Option ae
 | .run=>Ro F td
 | _=>none
def Ux : List bg→Bool
 | .code _ :: .inLoop _::_=>true
 | _=>false
def W1 : Nat→ae→ae
 | 0,F=>F
 | n+1,F=>match Ux F.todo with
   | true=>F
   | false=>match akA F F.todo F.mode with
     | some F' => W1 n F'
     | none=>F
theorem O5 {P:Program}{S:ag}{G:ae→ag→Prop}:∀(n:Nat) {F:ae},Reach P (W1 n F) S G→Reach P F S G:=by
 intro n
 induction n with
 | zero=>intro F h;exact h
 | succ n d=>
   intro F h
   simp only[W1] at h
   cases c:Ux F.todo with
   | true=>rw[c] at h;exact h
   | false=>
   rw[c] at h
   simp only at h
   cases a:akA F F.todo F.mode with
   | none=>rw[a] at h;exact h
   | some F' =>
     rw[a] at h
     have h:=d h
     have b:F.mode=.run:=by
      cases b:F.mode<;>simp_all[ae.mode,m8.mode,akA]
     have hf:Ro F F.todo=some F' := by
      rw[b] at a
      exact a
     rw[Qw b] at hf
     exact Reach.ae8 hf h
structure Am where
 fn : Func
 body : Code
 mask : Nat
 wide : List (Nat × Nat)
 sep : List (Nat × Nat)
 ext : Option (List AV → ag → Option (AV × ag))
 deriving Inhabited
inductive FT where
 | nil
 | node (o : Option Am) (l r : FT)
def FT.get : Nat→FT→Nat→Option Am
 | _,.nil,_=>none
 | 0,.node o _ _,_=>o
 | d+1,.node _ l r,i=>match Nat.beq (i%2) 0 with
   | true=>FT.get d l (i/2)
   | false=>FT.get d r (i/2)
def FT.set : Nat→FT→Nat→Am→FT
 | 0,_,_,v=>.node (some v) .nil .nil
 | d+1,.nil,i,v=>match Nat.beq (i%2) 0 with
   | true=>.node none (FT.set d .nil (i/2) v) .nil
   | false=>.node none .nil (FT.set d .nil (i/2) v)
 | d+1,.node o l r,i,v=>match Nat.beq (i%2) 0 with
   | true=>.node o (FT.set d l (i/2) v) r
   | false=>.node o l (FT.set d r (i/2) v)
def FT.look (T:FT)(f:Nat):Option Am:=
 match Nat.ble (f+1) 1024 with
 | true=>FT.get 10 T f
 | false=>none
def FT.Jn : Nat→FT→Nat→(List AV→ag→Option (AV×ag))→FT
 | _,.nil,_,_=>.nil
 | 0,.node o l r,_,x=>.node (match o with
   | some e=>some { e with ext:=some x }
   | none=>none) l r
 | d+1,.node o l r,i,x=>match Nat.beq (i%2) 0 with
   | true=>.node o (FT.Jn d l (i/2) x) r
   | false=>.node o l (FT.Jn d r (i/2) x)
def Ha : List (Nat×Nat)→Nat→Nat
 | [],_=>0
 | (k,v)::r,t=>match Nat.beq k t with
   | true=>v
   | false=>Ha r t
def ay (dt:List (Nat×Nat)):List Edge→Nat
 | []=>0
 | e::r=>match Region.binds .any e with
   | true=>Nat.lor (Nat.lor (Nat.shiftLeft 1 e.on) (Ha dt e.on)) (ay dt r)
   | false=>ay dt r
def yb (i:Nat):List Edge→Bool
 | []=>true
 | e::r=>match Region.binds .any e with
   | true=>match Nat.ble (e.on+1) i with
     | true=>yb i r
     | false=>false
   | false=>yb i r
def Ca (ops:Array Oper)(o:Oper)(m:Nat):List (Nat×Oper)→Bool
 | []=>true
 | (j,p)::r=>match tb m j with
   | true=>Ca ops o m r
   | false=>match o.apart ops p with
     | true=>Ca ops o m r
     | false=>false
def Qi (ops:Array Oper):List Oper→Nat→List (Nat×Nat)→List (Nat×Oper)→Bool
 | [],_,_,_=>true
 | o::os,i,dt,done=>match yb i o.after.toList with
   | true=>match Ca ops o (ay dt o.after.toList) done with
     | true=>Qi ops os (i+1) ((i,ay dt o.after.toList)::dt) ((i,o)::done)
     | false=>false
   | false=>false
def C5 (ops:Array Oper):Bool:=Qi ops ops.toList 0 [] []
abbrev xZ := List (Nat×Option aO)
inductive Le where
 | WO (c : xZ)
 | wide (lim nx : Nat)
structure rX where
 fn : Func
 F : ae
 S : ag
 ops : Array Oper
 os : List Oper
 i : Nat
 dt : List (Nat × Nat)
 wm : Nat
 sm : Nat
 kx : List (Nat × Le)
 es : List (Nat × ag)
inductive DM where
 | quiet
 | wide (bE : List Nat)
 | sep (ids : List Nat)
inductive cH where
 | nil
 | hole (G : ae → ag → Prop)
 | call (fn : Func) (F : ae) (o : Oper) (all : Array Oper) (rest : List Nat) (k : List bg) (next : cH)
 | rW (fn : Func) (F : ae) (ds : List hU) (next : cH)
 | loop (fn : Func) (F : ae) (d l : Nat) (k : List bg) (next : cH)
 | round (fn : Func) (F : ae) (o : Oper) (all : Array Oper) (rest : List Nat) (k : List bg) (id : Nat) (next : cH)
 | fU (D : rX) (o : Oper) (os : List Oper) (E : ag) (pi : Nat) (bE : DM) (rnd : Option Nat) (next : cH)
inductive St where
 | run (fn : Func) (F : ae) (S : ag) (k : cH)
 | fU (D : rX) (k : cH)
 | done (r : gL) (S : ag)
 | fork (fn : Func) (k : cH) (l : List (ae × ag))
 | bad (why : Nat)
def qW : xZ→Nat→Bool
 | [],_=>false
 | (k,_)::r,t=>match Nat.beq k t with
   | true=>true
   | false=>qW r t
def Le.has : Le→Nat→Bool
 | .WO c,t=>qW c t
 | .wide lim nx,t=>match Nat.ble lim t with
   | true=>Nat.ble (t+1) nx
   | false=>false
def jl (a:Nat):List (Nat×Le)→Nat→Bool
 | [],_=>true
 | (j,c)::r,id=>match tb a j with
   | true=>jl a r id
   | false=>match c.has id with
     | true=>false
     | false=>jl a r id
def sJ (a:Nat):List (Nat×ag)→Nat→Bool
 | [],_=>true
 | (j,E)::r,id=>match tb a j with
   | true=>sJ a r id
   | false=>match E.get id with
     | some _=>false
     | none=>sJ a r id
def Zs : AV→List Nat
 | .clip (.ai id _ _)=>[id]
 | .ptr id _ _=>[id]
 | .ai id _ _=>[id]
 | .cR id=>[id]
 | .sj id=>[id]
 | _=>[]
def iG (F:ae):List Operand→List Nat
 | []=>[]
 | x::r=>match F.eval x with
   | some v=>Zs v++iG F r
   | none=>iG F r
def iY (o:Op):List Operand:=
 match o with
 | .store _ a _=>[a]
 | .mapUpdate _ m k _=>[m,k]
 | .insert _ m k _=>[m,k]
 | _=>o.operands.toList
def seen (S:ag)(a:Nat)(kx:List (Nat×Le)):List Nat→PT→PT
 | [],m=>m
 | id::r,m=>match jl a kx id with
   | true=>match S.get id with
     | some o=>seen S a kx r (PT.set dep m id (some o))
     | none=>seen S a kx r m
   | false=>seen S a kx r m
def hidden (a:Nat):List (Nat×Le)→Option (List Nat)
 | []=>some []
 | (j,c)::r=>match tb a j with
   | true=>hidden a r
   | false=>match c with
     | .wide _ _=>none
     | .WO c=>match hidden a r with
       | some l=>some (c.map (·.1)++l)
       | none=>none
def jA (m:PT):List Nat→PT
 | []=>m
 | id::r=>jA (PT.set dep m id none) r
def zB (S:ag)(m:PT):List Nat→PT
 | []=>m
 | id::r=>zB S (PT.set dep m id (S.get id)) r
def C6 (a:Nat):List (Nat×ag)→Bool
 | []=>true
 | (j,_)::r=>match tb a j with
   | true=>C6 a r
   | false=>false
def uk (m:PT):xZ→PT
 | []=>m
 | (id,o)::r=>uk (PT.set dep m id o) r
def children : aO→List AV
 | .arr _ es=>es
 | .mp a=>a.map (·.1)++a.map (·.2)
 | .lp _ _ _ _ _ env _ _ _=>env.map (·.2)
 | _=>[]
def parts : AV→List AV
 | .agg cs=>cs
 | .lit es=>es
 | .dO es=>es
 | .fn _ a b=>a++b
 | .eB _ x=>[x]
 | .clip x=>[x]
 | .bO c=>c
 | _=>[]
def aad (E:ag)(lo:Nat)(a:xZ)(id:Nat):Option aO:=
 match Nat.ble lo id with
 | true=>match qW a id with
   | true=>none
   | false=>E.get id
 | false=>none
def xf : Nat:=1000000
def mN (E:ag)(lo:Nat):Nat→List AV→xZ→xZ
 | 0,_,a=>a
 | _,[],a=>a
 | n+1,v::r,a=>match Zs v with
   | []=>mN E lo n (parts v++r) a
   | id::_=>match aad E lo a id with
     | some o=>mN E lo n (children o++r) ((id,some o)::a)
     | none=>mN E lo n r a
def kids (S:ag):List Nat→List AV
 | []=>[]
 | id::r=>match S.get id with
   | some o=>children o++kids S r
   | none=>kids S r
def Cb (a:Nat)(kx:List (Nat×Le)):xZ→xZ
 | []=>[]
 | (id,o)::r=>match jl a kx id with
   | true=>(id,o)::Cb a kx r
   | false=>Cb a kx r
def ze (lim:Nat):xZ→List Nat
 | []=>[]
 | (id,_)::r=>match Nat.ble lim id with
   | true=>id::ze lim r
   | false=>ze lim r
def sU (E:ag)(n:Nat):Nat→xZ
 | 0=>[]
 | k+1=>match E.get (n+k) with
   | some o=>(n+k,some o)::sU E n k
   | none=>sU E n k
def od (E S:ag):List Nat→xZ
 | []=>[]
 | id::r=>match E.get id with
   | some _=>(id,S.get id)::od E S r
   | none=>od E S r
def oe (lim:Nat):List Nat→List Nat
 | []=>[]
 | id::r=>match Nat.ble lim id with
   | true=>id::oe lim r
   | false=>oe lim r
def ke (a:Nat)(es:List (Nat×ag))(nx:Nat):List Nat→Bool
 | []=>true
 | id::r=>match Nat.ble nx id with
   | true=>ke a es nx r
   | false=>match sJ a es id with
     | true=>ke a es nx r
     | false=>false
def Tp (i:Nat)(c:xZ)(kx:List (Nat×Le)):List (Nat×Le):=
 match c with
 | []=>kx
 | _=>(i,.WO c)::kx
def BY (i:Nat)(E:Option ag)(es:List (Nat×ag)):List (Nat×ag):=
 match E with
 | some E=>(i,E)::es
 | none=>es
def rX.next (D:rX)(o:Oper)(os:List Oper)(a:Nat)(v:AV)(nx:Nat)(c:xZ)(E:Option ag):rX:=
 match D with
 | ⟨fn,F,⟨_,lim,m⟩,ops,_,i,dt,wm,sm,kx,es⟩=>
   ⟨fn,Rn F o.dst v,⟨nx,lim,uk m c⟩,ops,os,Nat.succ i,(i,a)::dt,wm,sm,Tp i c kx,BY i E es⟩
def w7 (D:rX)(o:Oper)(os:List Oper)(b:Nat)(k:cH)(E:ag)(ids:List Nat)(BY:Option ag):Option dg→Option St
 | some (.val v a)=>some (.fU (D.next o os b v a.nx (od E a ids++sU a E.nx (a.nx-E.nx)) BY) k)
 | some (.skip a)=>some (.fU (D.next o os b (.bO []) a.nx (od E a ids++sU a E.nx (a.nx-E.nx)) BY) k)
 | _=>none
def Fo (n:Nat):Option St→St
 | some s=>s
 | none=>.bad n
def af9 (P:Program)(D:rX)(o:Oper)(os:List Oper)(a:Nat)(k:cH)(nx:Nat)(ids:List Nat)(m:PT):Bool→St
 | true=>Fo 5 (w7 D o os a k ⟨nx,D.S.lim,m⟩ ids (some ⟨nx,D.S.lim,m⟩) (DT P D.F.eval ⟨nx,D.S.lim,m⟩ o.op))
 | false=>.bad 4
def Zt (P:Program)(D:rX)(o:Oper)(os:List Oper)(a:Nat)(k:cH)(nx:Nat)(ids:List Nat)(m:PT):Option St→St
 | some s=>s
 | none=>af9 P D o os a k nx (oe D.S.lim ids) m (ke a D.es nx (oe D.S.lim ids))
def aga (P:Program)(D:rX)(o:Oper)(os:List Oper)(a:Nat)(k:cH)(nx:Nat)(ids:List Nat)(m:PT):St:=
 Zt P D o os a k nx ids m (w7 D o os a k ⟨nx,nx,m⟩ [] (some ⟨nx,nx,m⟩) (DT P D.F.eval ⟨nx,nx,m⟩ o.op))
def agb (P:Program)(D:rX)(o:Oper)(os:List Oper)(a:Nat)(k:cH)(nx:Nat)(ids:List Nat):St:=
 aga P D o os a k nx ids (seen D.S a D.kx ids .nil)
def agc (P:Program)(D:rX)(o:Oper)(os:List Oper)(a:Nat)(k:cH):Option St→St
 | some s=>s
 | none=>agb P D o os a k D.S.nx (iG D.F (iY o.op))
def age (P:Program)(D:rX)(o:Oper)(os:List Oper)(a:Nat)(k:cH):Bool→St
 | true=>.bad 1
 | false=>agc P D o os a k (w7 D o os a k ⟨D.S.nx,D.S.nx,.nil⟩ [] none (DT P D.F.eval ⟨D.S.nx,D.S.nx,.nil⟩ o.op))
def akB (P:Program)(D:rX)(o:Oper)(os:List Oper)(a:Nat)(k:cH):Option Bool→St
 | some false=>.fU (D.next o os a (.bO []) D.S.nx [] none) k
 | some true=>age P D o os a k (ct o.op)
 | none=>.bad 6
def so (T:FT)(F:ae)(c:Call)(P:Program):Option (Nat×Am×List AV):=
 match rA F.eval c.args.toList with
 | some args=>match c.callee with
   | .value f=>match F.eval f with
     | some (.fn (.func g) first cap)=>match FT.look T g with
       | some e=>some (g,e,first++args++cap)
       | none=>none
     | some y=>match Jy P y args with
       | some (g,l)=>match FT.look T g with
         | some e=>some (g,e,l)
         | none=>none
       | none=>none
     | none=>none
   | .invoke r a=>match F.eval r with
     | some (.eB t v)=>match Jx P t a v with
       | some (g,b)=>match FT.look T g with
         | some e=>some (g,e,b::args)
         | none=>none
       | none=>none
     | _=>none
   | _=>none
 | none=>none
def asI : Op→Bool
 | .call c=>match c.callee with
   | .builtin _=>false
   | _=>true
 | _=>false
def zC (f:Nat)(e:Am)(args:List AV)(kind:CallKind)(cm:dr):ae:=ae.enter f e.fn.ntmps e.mask e.body args kind cm
def rX.T4 (D:rX)(o:Oper)(os:List Oper)(E:ag)(b:Nat)(bE:List Nat)(v:AV)(S:ag):rX:=
 match D,S with
 | ⟨fn,F,⟨a,lim,c⟩,ops,_,i,dt,wm,sm,kx,es⟩,⟨nx,_,m⟩=>
   ⟨fn,Rn F o.dst v,⟨nx,lim,zB ⟨a,lim,c⟩ m bE⟩,ops,os,Nat.succ i,(i,b)::dt,wm,sm,(i,.wide lim nx)::kx,(i,E)::es⟩
def Rp (E:ag)(lo:Nat)(v:AV):xZ:=
 match Nat.ble (E.nx-lo) 3 with
 | true=>sU E lo (E.nx-lo)
 | false=>mN E lo xf [v] []
def rX.jB (D:rX)(o:Oper)(os:List Oper)(E:ag)(a:Nat)(bE:DM)(v:AV)(S:ag):rX:=
 match bE with
 | .quiet=>D.next o os a v S.nx (Rp S E.nx v) (some E)
 | .sep ids=>D.next o os a v S.nx (od E S ids++mN S E.nx xf (v::kids S ids) []) (some E)
 | .wide bE=>D.T4 o os E a bE v S
def aeh (T:FT)(f id:Nat):Nat:=
 match FT.look T f with
 | some e=>Ha e.wide id
 | none=>0
def back (r:gL)(cm:dr)(S:ag):cH→St
 | .nil=>.done r S
 | .hole _=>.bad 61
 | .call fn F o all rest k next=>.run fn (LK F o all rest k r) S next
 | .rW fn F ds next=>.run fn { F with defers:=ds,mode:=jd r cm } S next
 | .loop fn F d l k next=>.run fn (F.qI d l k r) S next
 | .round fn F o all rest k _ next=>match r with
   | .wh _=>.run fn (LK F o all rest k r) S next
   | .ret _=>.bad 26
 | .fU D o os E a bE none next=>match r with
   | .ret v=>.fU (D.jB o os E a bE v S) next
   | .wh _=>.bad 9
 | .fU _ _ _ _ _ _ (some _) _=>.bad 39
def ajx (T:FT)(f id:Nat):Nat:=
 match FT.look T f with
 | some e=>Ha e.sep id
 | none=>0
def Cc (g:Nat)(e:Am)(args:List AV)(S:ag)(k:cH):St:=
 match e.ext with
 | none=>.run e.fn (zC g e args .normal .run) S k
 | some x=>match x args S with
   | some (v,a)=>back (.ret v) .run a k
   | none=>.run e.fn (zC g e args .normal .run) S k
def aae (T:FT)(P:Program)(D:rX)(o:Oper)(os:List Oper)(a:Nat)(k:cH):St:=
 match hidden a D.kx,C6 a D.es with
 | some bE,true=>
   let E:ag:=⟨D.S.nx,D.S.lim,jA D.S.m bE⟩
   match DT P D.F.eval E o.op with
   | some (.sj id args)=>match E.get id with
     | some (.lp _ _ f n mask env params assign body)=>match FT.look T f,Nat.beq args.length params.length with
       | some e,true=>.run e.fn (ux id f n mask env params assign body args) E (.fU D o os E a (.wide bE) (some id) k)
       | _,_=>.bad 40
     | _=>.bad 41
   | _=>.bad 7
 | _,_=>.bad 42
def Oo (D:rX)(o:Oper)(os:List Oper)(a:Nat)(k:cH)(g:Nat)(e:Am)(args:List AV)(c:xZ)(ids:List Nat):Bool→St
 | true=>Cc g e args ⟨D.S.nx,D.S.lim,uk .nil c⟩ (.fU D o os ⟨D.S.nx,D.S.lim,uk .nil c⟩ a (.sep ids) none k)
 | false=>.bad 45
def aei (D:rX)(o:Oper)(os:List Oper)(a:Nat)(k:cH)(g:Nat)(e:Am)(args:List AV)(bE:List Nat):Bool→St
 | true=>let c:=Cb a D.kx (mN D.S 0 xf args [])
   Oo D o os a k g e args c (ze D.S.lim c) (ke a D.es D.S.nx (ze D.S.lim c))
 | false=>Cc g e args ⟨D.S.nx,D.S.nx,jA D.S.m bE⟩ (.fU D o os ⟨D.S.nx,D.S.nx,jA D.S.m bE⟩ a .quiet none k)
def Oq (D:rX)(o:Oper)(os:List Oper)(a:Nat)(k:cH)(g:Nat)(e:Am)(args:List AV)(bE:List Nat):Bool→St
 | true=>Cc g e args ⟨D.S.nx,D.S.lim,jA D.S.m bE⟩ (.fU D o os ⟨D.S.nx,D.S.lim,jA D.S.m bE⟩ a (.wide bE) none k)
 | false=>.bad 22
def Ot (D:rX)(o:Oper)(os:List Oper)(a:Nat)(k:cH)(g:Nat)(e:Am)(args:List AV):Option (List Nat)→St
 | some bE=>match tb D.wm D.i with
   | true=>Oq D o os a k g e args bE (C6 a D.es)
   | false=>aei D o os a k g e args bE (tb D.sm D.i)
 | none=>.bad 23
def aej (T:FT)(P:Program)(D:rX)(o:Oper)(os:List Oper)(a:Nat)(k:cH):Option (Nat×Am×List AV)→St
 | some (g,e,args)=>Ot D o os a k g e args (hidden a D.kx)
 | none=>aae T P D o os a k
def Zu (T:FT)(P:Program)(D:rX)(o:Oper)(os:List Oper)(a:Nat)(k:cH)(c:Call):Option Bool→St
 | some false=>.fU (D.next o os a (.bO []) D.S.nx [] none) k
 | some true=>aej T P D o os a k (so T D.F c P)
 | none=>.bad 8
def aaf (T:FT)(P:Program)(D:rX)(o:Oper)(os:List Oper)(a:Nat)(k:cH):Option Call→St
 | some c=>Zu T P D o os a k c (tx D.F D.ops o)
 | none=>akB P D o os a k (tx D.F D.ops o)
def gO : Op→Option Call
 | .call c=>match c.callee with
   | .builtin _=>none
   | _=>some c
 | _=>none
def chain : List Oper→Nat→List (Nat×Nat)→Bool
 | [],_,_=>true
 | o::os,i,dt=>match Nat.beq (Nat.succ (ay dt o.after.toList)) (Nat.shiftLeft 1 i) with
   | true=>chain os (Nat.succ i) ((i,ay dt o.after.toList)::dt)
   | false=>false
def Ou (D:rX)(k:cH):St:=.run D.fn (lS D.F (.ops D.ops (List.range' D.i (D.ops.size-D.i))::D.F.todo)) D.S k
def behind : List Oper→Nat→Nat→List (Nat×Nat)→Bool
 | [],_,_,_=>true
 | o::os,a,i,dt=>match Nat.beq (Nat.land (ay dt o.after.toList) a) a with
   | true=>behind os a (Nat.succ i) ((i,ay dt o.after.toList)::dt)
   | false=>false
def Ir : List Oper→Nat→List (Nat×Nat)→Bool
 | [],_,_=>false
 | o::os,i,dt=>match Nat.beq (Nat.succ (ay dt o.after.toList)) (Nat.shiftLeft 1 i) with
   | true=>behind os (Nat.pred (Nat.shiftLeft 1 (Nat.succ i))) (Nat.succ i) ((i,ay dt o.after.toList)::dt)
   | false=>false
def agf (D:rX)(k:cH):St:=.run D.fn (lS D.F (.ops D.ops [D.i,D.ops.size,Nat.succ D.i,D.wm,D.sm]::D.F.todo)) D.S k
def Uy (T:FT)(P:Program)(D:rX)(o:Oper)(os:List Oper)(k:cH)(c:Call):Bool→St
 | true=>agf D k
 | false=>aaf T P D o os (ay D.dt o.after.toList) k (some c)
def Uz (T:FT)(P:Program)(D:rX)(o:Oper)(os:List Oper)(k:cH)(c:Call):Bool→St
 | true=>Ou D k
 | false=>Uy T P D o os k c (Ir (o::os) D.i D.dt)
def agh (T:FT)(P:Program)(D:rX)(o:Oper)(os:List Oper)(k:cH):Option Call→St
 | some c=>Uz T P D o os k c (chain (o::os) D.i D.dt)
 | none=>aaf T P D o os (ay D.dt o.after.toList) k none
def T5 (T:FT)(P:Program)(D:rX)(k:cH):List Oper→St
 | []=>Ou D k
 | o::os=>agh T P D o os k (gO o.op)
def akC (T:FT)(fn:Func)(F:ae)(S:ag)(k:cH)(params:Array Tmp)(assign body:Code)(td:List bg):Option Nat→Option AV→St
 | none,some (.fn (.func g) first cap)=>match FT.look T g,Nat.ble (S.nx+2) 8192,Nat.ble S.lim S.nx with
   | some e,true,true=>.run e.fn (zC g e (first++[.sj (S.nx+1)]++cap) .normal .run) (F.Zr S params assign body) (.loop fn F S.nx (S.nx+1) td k)
   | _,_,_=>.bad 30
 | _,_=>.bad 31
def agi (fn:Func)(F:ae)(S:ag)(k:cH)(id:Nat)(td:List bg):Option aO→St
 | some (.lp st a f n mask env params assign body)=>match st == .busy,Nat.ble S.lim id with
   | false,true=>.run fn (Iq F (On a td)) (S.set id (.lp .exhausted a f n mask env params assign body)) k
   | _,_=>.bad 32
 | _=>.bad 33
def agj (fn:Func)(F:ae)(S:ag)(k:cH)(id:Nat)(td:List bg):Option aO→St
 | some (.lp .ready a f n mask env params assign body)=>match Nat.ble S.lim id with
   | true=>.run fn (lS F td) (S.set id (.lp .busy a f n mask env params assign body)) k
   | false=>.bad 34
 | _=>.bad 35
def LL (S:ag)(k:cH)(v:AV):St:=
 match k with
 | .round a b o all rest td _ next=>.run a (LK b o all rest td (.ret v)) S next
 | .fU D o os E c bE (some _) next=>.fU (D.jB o os E c bE v S) next
 | _=>.bad 38
def alK (S:ag)(k:cH)(id f n mask:Nat)(env:List (Nat×AV))(params:List Tmp)(assign body:Code):List bg→Option Code→St
 | [],_=>LL (S.set id (.lp .ready none f n mask env params assign body)) k (.sc (.bool true))
 | _,some c=>LL (S.set id (.lp .done (some c) f n mask env params assign body)) k (.sc (.bool false))
 | _,none=>.bad 13
def agk (F:ae)(S:ag)(k:cH)(id:Nat):List hU→Option aO→Bool→St
 | [],some (.lp _ _ f n mask env params assign body),true=>alK S k id f n mask env params assign body F.todo (C4 F.todo)
 | _,_,_=>.bad 37
def mI : cH→Option Nat
 | .round _ _ _ _ _ _ id _=>some id
 | .fU _ _ _ _ _ _ (some id) _=>some id
 | _=>none
def T6 (F:ae)(S:ag)(k:cH):Option Nat→St
 | some id=>agk F S k id F.defers (S.get id) (Nat.ble S.lim id)
 | none=>.bad 38
def Zv (fn:Func)(F:ae)(S:ag)(k:cH)(td:List bg):Option Nat→St
 | some id=>agj fn F S k id td (S.get id)
 | none=>.bad 36
def ajy (T:FT)(fn:Func)(F:ae)(S:ag)(k:cH)(id:Nat)(all:Array Oper)(td:List bg):Bool→Bool→St
 | true,true=>.fU { fn:=fn,F:=Iq F td,S:=S,ops:=all,os:=all.toList,i:=0,dt:=[],wm:=aeh T F.fn id,sm:=ajx T F.fn id,kx:=[],es:=[] } k
 | _,_=>.bad 46
def aag (T:FT)(fn:Func)(F:ae)(S:ag)(k:cH)(id:Nat)(all:Array Oper)(td:List bg):St:=
 ajy T fn F S k id all td (C5 all) (Nat.ble S.lim S.nx)
def T7 (T:FT)(fn:Func)(F:ae)(S:ag)(k:cH):List bg→St
 | .code (.rangeFunc f params assign body)::td=>akC T fn F S k params assign body td F.round (F.eval f)
 | .code (.region id all true)::td=>aag T fn F S k id all td
 | .n9 id::td=>agi fn F S k id td (S.get id)
 | .N0::td=>Zv fn F S k td F.round
 | _=>T6 F S k (mI k)
def agl (fn:Func)(F:ae)(S:ag)(k:cH)(o:Oper)(all:Array Oper)(rest:List Nat)(td:List bg)(id f n mask:Nat)(env:List (Nat×AV))(params:List Tmp)(assign body:Code)(args:List AV):Option Am→Bool→St
 | some e,true=>.run e.fn (ux id f n mask env params assign body args) S (.round fn F o all rest td id k)
 | _,_=>.bad 28
def Zw (T:FT)(fn:Func)(F:ae)(S:ag)(k:cH)(o:Oper)(all:Array Oper)(rest:List Nat)(td:List bg)(id:Nat)(args:List AV):Option aO→St
 | some (.lp _ _ f n mask env params assign body)=>agl fn F S k o all rest td id f n mask env params assign body args (FT.look T f) (Nat.beq args.length params.length)
 | _=>.bad 29
def flat : cH→Bool
 | .nil=>true
 | .hole _=>true
 | .call _ _ _ _ _ _ n=>flat n
 | .rW _ _ _ n=>flat n
 | .loop _ _ _ _ _ n=>flat n
 | .round _ _ _ _ _ _ _ n=>flat n
 | .fU .. => false
def Fp (F:ae)(S:ag):Op→Option (List (AV×ag))
 | .next b false=>match F.eval b with
   | some a=>Fm S a
   | none=>none
 | _=>none
def T8 (F:ae)(o:Oper)(all:Array Oper)(rest:List Nat)(td:List bg):List (AV×ag)→List (ae×ag)
 | []=>[]
 | (v,S)::r=>(nA F o v all rest td,S)::T8 F o all rest td r
def UC (fn:Func)(F:ae)(k:cH)(o:Oper)(all:Array Oper)(rest:List Nat)(td:List bg)(l:List (AV×ag)):Bool→St
 | true=>.fork fn k (T8 F o all rest td l)
 | false=>.bad 48
def T9 (fn:Func)(F:ae)(k:cH)(o:Oper)(all:Array Oper)(rest:List Nat)(td:List bg):Option (List (AV×ag))→St
 | some [(v,S)]=>.run fn (nA F o v all rest td) S k
 | some l=>UC fn F k o all rest td l (flat k)
 | none=>.bad 18
def Tq (T:FT)(fn:Func)(F:ae)(S:ag)(k:cH)(o:Oper)(all:Array Oper)(rest:List Nat)(td:List bg):Option dg→St
 | some (.val v a)=>.run fn (nA F o v all rest td) a k
 | some (.skip a)=>.run fn (nA F o (.bO []) all rest td) a k
 | some (.wh v)=>.run fn (T3 F (.panicking [(v,false)])) S k
 | some (.sj id args)=>Zw T fn F S k o all rest td id args (S.get id)
 | none=>T9 fn F k o all rest td (Fp F S o.op)
 | _=>.bad 18
def aah (fn:Func)(F:ae)(S:ag)(k:cH)(o:Oper)(all:Array Oper)(rest:List Nat)(td:List bg):Option (AV×dr)→St
 | some (v,cm)=>.run fn { nA F o v all rest td with cm:=cm } S k
 | none=>.run fn (nA F o (.sc .nilIface) all rest td) S k
def Qj (fn:Func)(F:ae)(S:ag)(k:cH)(o:Oper)(all:Array Oper)(rest:List Nat)(td:List bg):Option Nat→Option dg→St
 | none,some (.rW f cap args)=>.run fn { nA F o (.bO []) all rest td with defers:=.call f cap args::F.defers } S k
 | none,some .ae7=>match F.kind with
   | .deferred=>aah fn F S k o all rest td (uU F.cm)
   | _=>.bad 20
 | _,_=>.bad 21
def afy (T:FT)(P:Program)(fn:Func)(F:ae)(S:ag)(k:cH)(o:Oper)(all:Array Oper)(rest:List Nat)(td:List bg):Bool→St
 | false=>Tq T fn F S k o all rest td (DT P F.eval S o.op)
 | true=>Qj fn F S k o all rest td F.round (DT P F.eval S o.op)
def agm (fn:Func)(F:ae)(S:ag)(k:cH)(o:Oper)(all:Array Oper)(rest:List Nat)(td:List bg)(g:Nat)(e:Am)(args:List AV):Option (AV×ag)→St
 | some (v,a)=>.run fn (nA F o v all rest td) a k
 | none=>.run e.fn (zC g e args .normal .run) S (.call fn F o all rest td k)
def UD (fn:Func)(F:ae)(S:ag)(k:cH)(o:Oper)(all:Array Oper)(rest:List Nat)(td:List bg)(g:Nat)(e:Am)(args:List AV):Option (List AV→ag→Option (AV×ag))→St
 | none=>.run e.fn (zC g e args .normal .run) S (.call fn F o all rest td k)
 | some x=>agm fn F S k o all rest td g e args (x args S)
def Zx (T:FT)(P:Program)(fn:Func)(F:ae)(S:ag)(k:cH)(o:Oper)(all:Array Oper)(rest:List Nat)(td:List bg):Option (Nat×Am×List AV)→St
 | some (g,e,args)=>UD fn F S k o all rest td g e args e.ext
 | none=>afy T P fn F S k o all rest td false
def agn (T:FT)(P:Program)(fn:Func)(F:ae)(S:ag)(k:cH)(o:Oper)(all:Array Oper)(rest:List Nat)(td:List bg):Option Call→St
 | some c=>Zx T P fn F S k o all rest td (so T F c P)
 | none=>afy T P fn F S k o all rest td (ct o.op)
def Ov (T:FT)(P:Program)(fn:Func)(F:ae)(S:ag)(k:cH)(o:Oper)(all:Array Oper)(rest:List Nat)(td:List bg):Option Bool→St
 | some true=>agn T P fn F S k o all rest td (gO o.op)
 | some false=>.run fn (nA F o (.bO []) all rest td) S k
 | none=>.bad 11
def gg : List Oper→Nat→List (Nat×Nat)→List (Nat×Nat)
 | [],_,dt=>dt
 | o::os,i,dt=>gg os (i+1) ((i,ay dt o.after.toList)::dt)
def UE (fn:Func)(F:ae)(S:ag)(k:cH)(all:Array Oper)(td:List bg)(a wm sm:Nat):Bool→Bool→Bool→St
 | true,true,true=>.fU { fn:=fn,F:=lS F td,S:=S,ops:=all,os:=all.toList.drop a,i:=a,dt:=gg (all.toList.take a) 0 [],wm:=wm,sm:=sm,kx:=[],es:=[] } k
 | _,_,_=>.bad 12
def Ua (fn:Func)(F:ae)(S:ag)(k:cH)(all:Array Oper)(td:List bg):List Nat→St
 | [a,wm,sm]=>UE fn F S k all td a wm sm (C5 all) (Nat.ble S.lim S.nx) (Nat.ble a all.size)
 | _=>.bad 12
def aai (T:FT)(P:Program)(fn:Func)(F:ae)(S:ag)(k:cH)(all:Array Oper)(rest:List Nat)(td:List bg):Option Oper→St
 | some o=>Ov T P fn F S k o all rest td (tx F all o)
 | none=>Ua fn F S k all td rest
def ago (T:FT)(fn:Func)(F:ae)(S:ag)(k:cH):Option ae→St
 | some F' => .run fn (W1 10 F') S k
 | none=>T7 T fn F S k F.todo
def alM (T:FT)(P:Program)(fn:Func)(F:ae)(S:ag)(k:cH):List bg→St
 | .ops all (i::rest)::td=>aai T P fn F S k all rest td (N6 all i)
 | td=>ago T fn F S k (Ro F td)
def agp (F:ae)(S:ag)(k:cH):Option AV→St
 | some v=>back (.ret v) F.cm S k
 | none=>.bad 14
def Zy (fn:Func)(F:ae)(S:ag)(k:cH)(id:Nat)(ds:List hU):Option aO→Bool→St
 | some (.df true),true=>.run fn { F with defers:=ds } (S.set id (.df false)) k
 | _,_=>.bad 27
def agq (fn:Func)(F:ae)(S:ag)(k:cH)(f:Nat)(cap args:List AV)(ds:List hU):Option Am→St
 | some e=>.run e.fn (zC f e (args++cap) .deferred F.mode) S (.rW fn F ds k)
 | none=>.bad 16
def W2 (P:Program)(fn:Func)(F:ae)(S:ag)(k:cH):dr→St
 | .returning=>agp F S k (uQ P fn F S)
 | .panicking l=>back (.wh l) F.cm S k
 | .run=>.bad 15
def W3 (T:FT)(P:Program)(fn:Func)(F:ae)(S:ag)(k:cH):List hU→St
 | []=>W2 P fn F S k F.mode
 | .call f cap args::ds=>agq fn F S k f cap args ds (FT.look T f)
 | .nq id::ds=>Zy fn F S k id ds (S.get id) (Nat.ble S.lim id)
 | .uJ _::_=>.bad 73
def akD (T:FT)(P:Program)(fn:Func)(F:ae)(S:ag)(k:cH):dr→St
 | .run=>alM T P fn F S k F.todo
 | _=>W3 T P fn F S k F.defers
def St.step (T:FT)(P:Program):St→St
 | .run fn F S k=>akD T P fn F S k F.mode
 | .fU D k=>T5 T P D k D.os
 | s=>s
def St.rep (T:FT)(P:Program):Nat→St→St
 | 0,s=>s.step T P
 | d+1,s=>match St.rep T P d s with
   | .run fn F S k=>St.rep T P d (.run fn F S k)
   | .fU D k=>St.rep T P d (.fU D k)
   | s=>s
def Ub (fn:Func)(k:cH):List (ae×ag)→List St
 | []=>[]
 | (F,S)::r=>.run fn F S k::Ub fn k r
def St.outs (T:FT)(P:Program)(d:Nat):Nat→List St→Option (List (AV×ag))
 | 0,_=>none
 | _+1,[]=>some []
 | n+1,s::r=>match St.rep T P d s with
   | .done (.ret v) S=>match St.outs T P d n r with
     | some l=>some ((v,S)::l)
     | none=>none
   | .fork fn k l=>St.outs T P d n (Ub fn k l++r)
   | _=>none
def St.start (T:FT)(f:Nat)(args:List AV)(S:ag):St:=
 match FT.look T f with
 | some e=>.run e.fn (zC f e args .normal .run) S .nil
 | none=>.bad 0
end
end Go.Eng

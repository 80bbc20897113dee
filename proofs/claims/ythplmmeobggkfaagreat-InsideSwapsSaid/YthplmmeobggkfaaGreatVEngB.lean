/- The operations on maps and strings, and the meaning of each operation; no conditions. -/
import Derived.Test.YthplmmeobggkfaaGreatVEngA
import Derived.Orders
set_option linter.all false
namespace Go.Eng
noncomputable section
inductive de where
 | val (v : AV) (S : ag)
 | skip (S : ag)
 | call (f : FuncId) (args : List AV)
 | rV (id : Nat) (args : List AV)
 | rN (f : FuncId) (cap args : List AV)
 | ae5
 | wI (v : AV)
def re (ρ:Operand→Option AV):List Operand→Option (List AV)
 | []=>some []
 | x::r=>match ρ x with
   | some v=>match re ρ r with
     | some l=>some (v::l)
     | none=>none
   | none=>none
def w5 (ρ:Operand→Option AV):List (Nat×Operand)→Option (List (Nat×AV))
 | []=>some []
 | (i,x)::r=>match ρ x with
   | some v=>match w5 ρ r with
     | some l=>some ((i,v)::l)
     | none=>none
   | none=>none
def K6 (g:Gh)(ρ:Operand→Option AV)(ρ' : Operand→Value):Prop:=∀ x v,ρ x=some v→VR g v (ρ' x)
variable {g : Gh} {ρ : Operand → Option AV} {ρ' : Operand → Value}
theorem tC (h:K6 g ρ ρ'):∀ {l:List Operand} {b:List AV},re ρ l=some b→hJ g b (l.map ρ').toArray:=by
 intro l
 induction l with
 | nil=>grind[re,hJ.nil]
 | cons x r d=>
   intro b e
   simp only[re] at e
   split at e<;>try (simp at e;done)
   rename_i v i
   split at e<;>simp only[bj,reduceCtorEq] at e
   rename_i l' j
   subst e
   exact hJ.cons (h x v i) (d j)
theorem Dd (h:K6 g ρ ρ'):∀ {l:List (Nat×Operand)} {b:List (Nat×AV)},w5 ρ l=some b→xb g b (l.map fun p=>(p.1,ρ' p.2)):=by
 intro l
 induction l with
 | nil=>intro b e;simp only[w5,bj] at e;subst e;exact .nil
 | cons p r d=>
   obtain⟨i,x⟩:=p
   intro b e
   simp only[w5] at e
   split at e<;>try (simp at e;done)
   rename_i v j
   split at e<;>simp only[bj,reduceCtorEq] at e
   rename_i l' k
   subst e
   exact .cons (h x v j) (d k)
def nm (P : Program) (f : FuncId) : Bool :=
 match P.funcs[f]? with
 | some fn => match fn.body with
   | some _ => !(fn.name == "runtime.NumGoroutine")
   | none => false
 | none => false
variable {P : Program} {w : World} {f : FuncId} {xs : Array Value}
theorem mU (h:nm P f=true):(callFunc f xs).run P w=.ok (.enter f xs) w:=by
 unfold nm at h
 split at h<;>try (simp at h;done)
 rename_i fn hf
 split at h<;>try (simp at h;done)
 rename_i b hb
 simp only[xg] at h
 simp only[callFunc,Sem.run_bind,run_program,Result.andThen_ok,hf]
 simp_all
def vx (P:Program)(t:TypeId)(name:String):Option FuncId:=
 match P.info? t with
 | some i=>match i.methods.find? (·.name==name) with
   | some m=>match m.path.toList,m.func,P.underlying t with
     | [],some (f,true),some (.pointer _)=>some f
     | [],some (_,false),some (.pointer _)=>none
     | [],some (f,false),some _=>some f
     | _,_,_=>none
   | none=>none
 | none=>none
variable {t : TypeId} {name : String} {n : Nat}
theorem FU {v:Value}(h:vx P t name=some f):(method (n+1) t v name).run P w=.ok (f,v) w:=by
 unfold vx at h
 split at h<;>try (simp at h;done)
 rename_i i hi
 split at h<;>try (simp at h;done)
 rename_i m k
 have b:∀ {l:List FieldStep},m.path.toList=l→m.path=l.toArray:=fun e=>by rw[←e]
 split at h<;>simp only[bj,reduceCtorEq] at h
 · rename_i a e j hf hu
   subst h
   simp[method,cV hi,k,b j,follow,hf,receiverAt,ah hu,Place.get]
 · rename_i a d p j hf hu
   subst h
   simp only[method,Sem.run_bind,cV hi,Result.andThen_ok,k,j,follow,Sem.run_pure,hf,receiverAt,ah hu]
   cases d<;>first | grind | simp[Place.get]
variable {ty : TypeId} {ts : List TypeId} {a : Option Addr} {c c' : Nat}
theorem Yb : Builtin.len_ (t::ts).toArray ty #[.slice a n c]=Builtin.len_ (t::ts).toArray ty #[.slice a n c']:=by
 grind[Builtin.len_]
theorem RI {b:Value}:Instr.indexAt t (.slice a n c) b=Instr.indexAt t (.slice a n c') b:=by
 unfold Instr.indexAt
 congr 1
 funext p
 obtain⟨k,i⟩:=p
 dsimp only
 congr 1
 funext u
 cases u<;>rfl
variable {S : ag} {y : Value}
theorem J7 (hi:Inv S g w){x:AV}(h:CW P S t x.qV=some n)(b:VR g x y) :
  (Builtin.len_ (t::ts).toArray ty #[y]).run P w=.ok (.int .i64 n) w:=by
 rcases b.qV with k | ⟨a,m,c,rfl,k⟩
 all_goals grind[Mt,Yb]
variable {x : Value}
theorem Cl (hi:Inv S g w){a d r:AV}(h:dP P S t a.qV d=some r)(ha:VR g a x)(hx:VR g d y) :
  ∃ z,(Instr.indexAt t x y).run P w=.ok z w∧VR g r z:=by
 rcases ha.qV with k | ⟨b,m,c,rfl,k⟩
 all_goals grind[Bo,RI]
def Lv (P:Program):List FieldStep→TypeId→AV→Option (TypeId×AV)
 | [],t,a=>some (t,a)
 | s::r,_,a=>match s.deref,P.underlying s.struct with
   | false,some (.struct fs)=>match nth fs.toList s.index,a with
     | some d,.agg cs=>match Fp P d.type cs d.offset with
       | some b=>Lv P r d.type b
       | none=>none
     | _,_=>none
   | _,_=>none
theorem Yc : ∀ {l:List FieldStep} {t:TypeId} {a b:AV} {xt:TypeId} {x:Value},Lv P l t a=some (xt,b)→VR g a x→∃ y,(follow l t (.val x)).run P w=.ok (xt,.val y) w∧VR g b y:=by
 intro l
 induction l with
 | nil=>
   intro t a b xt x h i
   simp only[Lv,bj,nj] at h
   obtain⟨rfl,rfl⟩:=h
   exact⟨x,rfl,i⟩
 | cons s r m=>
   intro t a b xt x h i
   simp only[Lv] at h
   split at h<;>try (simp at h;done)
   rename_i fs p hu
   split at h<;>try (simp at h;done)
   rename_i d cs k
   split at h<;>try (simp at h;done)
   rename_i A hb
   rw[j4] at k
   have j:fs[s.index]? = some d:=by simpa using k
   cases i with
   | agg q hh=>
     obtain⟨z,e,u⟩:=vR (P:=P) (w:=w) hb ⟨q,hh⟩
     obtain⟨y,v,hy⟩:=m h u
     refine⟨y,?_,hy⟩
     simp only[follow,Sem.run_bind,ah hu,Result.andThen_ok,j,p,dK,if_false,e,v]
def Ur (P:Program)(t:TypeId)(name:String)(v:AV):Option (FuncId×AV):=
 match P.info? t with
 | some i=>match i.methods.find? (·.name==name) with
   | some m=>match m.func,Lv P m.path.toList t v with
     | some (f,false),some (xt,b)=>match P.underlying xt with
       | some (.pointer _)=>none
       | some _=>some (f,b)
       | none=>none
     | _,_=>none
   | none=>none
 | none=>none
def Jp (P:Program)(t:TypeId)(name:String)(v:AV):Option (FuncId×AV):=
 match vx P t name with
 | some f=>some (f,v)
 | none=>Ur P t name v
theorem U4 {a b:AV}(h:Jp P t name a=some (f,b))(k:VR g a x):∃ y,(method (n+1) t x name).run P w=.ok (f,y) w∧VR g b y:=by
 unfold Jp at h
 split at h
 · rename_i l j
   simp only[bj,nj] at h
   obtain⟨rfl,rfl⟩:=h
   exact⟨x,FU j,k⟩
 · unfold Ur at h
   split at h<;>try (simp at h;done)
   rename_i i hi
   split at h<;>try (simp at h;done)
   rename_i m j
   split at h<;>try (simp at h;done)
   rename_i l xt r hf p
   obtain⟨y,e,hy⟩:=Yc (w:=w) p k
   split at h<;>simp only[bj,nj,reduceCtorEq] at h
   rename_i d q hu
   obtain⟨rfl,rfl⟩:=h
   refine⟨y,?_,hy⟩
   simp only[method,Sem.run_bind,cV hi,Result.andThen_ok,j,e,hf,receiverAt,ah hu]
   cases d<;>first | grind | simp[Place.get]
theorem J8 {v:Value}(h:vx P t name=some f):(nilAhead (n+1) t v name).run P w=.ok (some false) w:=by
 unfold vx at h
 split at h<;>try (simp at h;done)
 rename_i i hi
 split at h<;>try (simp at h;done)
 rename_i m j
 split at h<;>simp only[bj,reduceCtorEq] at h
 · rename_i a e b hf hu
   simp only[nilAhead,Sem.run_bind,cV hi,Result.andThen_ok,j,b,followBlind,Sem.run_pure,hf]
 · rename_i a d k b hf hu
   simp only[nilAhead,Sem.run_bind,cV hi,Result.andThen_ok,j,b,followBlind,Sem.run_pure,hf,ah hu]
   simp_all
def Jq (P:Program)(y:AV)(args:List AV):Option (Nat×List AV):=
 match y with
 | .fn (.method name) (.eu t v::first) _=>match vx P t name with
   | some g=>match nm P g with
     | true=>some (g,v::(first++args))
     | false=>none
   | none=>none
 | _=>none
def Qe (P:Program)(y:AV):Bool:=
 match y with
 | .fn (.method name) (.eu t _::_) _=>(vx P t name).isSome
 | _=>false
variable {args : List AV}
theorem De {y:AV}{l:List AV}{g:Nat}(h:Jq P y args=some (g,l)):∃ name t v first cap,y=.fn (.method name) (.eu t v::first) cap∧vx P t name=some g∧nm P g=true∧l=v::(first++args):=by
 unfold Jq at h
 grind
theorem OW {y:AV}(h:Qe P y=true):∃ name t v first cap g,y=.fn (.method name) (.eu t v::first) cap∧vx P t name=some g:=by
 unfold Qe at h
 split at h<;>try (simp at h;done)
 obtain⟨g,b⟩:=Option.isSome_iff_exists.1 h
 grind
def lh (P:Program)(S:ag)(b:Builtin)(ts:List TypeId)(args:List AV):Option de:=
 match b,args with
 | .append,[s,x]=>match qG P S ts s x with
   | some (v,e)=>some (.val v e)
   | none=>match JG P S ts s x with
     | some (v,e)=>some (.val v e)
     | none=>none
 | .len,[x]=>match ts with
   | t::_=>match CW P S t x.qV with
     | some n=>some (.val (.sc (.int .i64 n)) S)
     | none=>none
   | []=>none
 | .cap,[x]=>match ts with
   | t::_=>match TW P t x with
     | some n=>some (.val (.sc (.int .i64 n)) S)
     | none=>none
   | []=>none
 | .copy,[d,x]=>match Of P S ts d x with
   | some (n,e)=>some (.val (.sc (.int .i64 n)) e)
   | none=>none
 | .max,_=>match Ih true args with
   | some v=>some (.val v S)
   | none=>none
 | .min,_=>match Ih false args with
   | some v=>some (.val v S)
   | none=>none
 | .panic,[.eu t v]=>some (.wI (.eu t v))
 | .clear,[x]=>match JH P S ts x with
   | some e=>some (.val (.bO []) e)
   | none=>none
 | .recover,[]=>some .ae5
 | _,_=>none
def xh (P:Program)(ρ:Operand→Option AV)(S:ag)(c:Call):Option de:=
 match re ρ c.args.toList with
 | some args=>match c.callee with
   | .builtin b=>lh P S b c.argTypes.toList args
   | .invoke r name=>match ρ r with
     | some (.eu t v)=>match Jp P t name v with
       | some (f,b)=>match nm P f with
         | true=>some (.call f (b::args))
         | false=>none
       | none=>none
     | _=>none
   | .value f=>match ρ f with
     | some (.fn (.func g) first cap)=>match nm P g with
       | true=>some (.call g (first++args++cap))
       | false=>none
     | some (.rV id)=>some (.rV id args)
     | some y=>match Jq P y args with
       | some (g,l)=>some (.call g l)
       | none=>none
     | none=>none
 | none=>none
def mM (S:ag):Option AV→Option de
 | some v=>some (.val v S)
 | none=>none
def Dz : Option (AV×ag)→Option de
 | some (v,S)=>some (.val v S)
 | none=>none
def NQ : Option ag→Option de
 | some S=>some (.skip S)
 | none=>none
def uL : Operand→Bool
 | .const _=>true
 | _=>false
def gH (P:Program)(ρ:Operand→Option AV)(S:ag)(o:Op):Option de:=
 match o with
 | .move x=>mM S (ρ x)
 | .assign x=>mM S (ρ x)
 | .pick c a b=>match ρ c with
   | some (.sc (.bool true))=>mM S (ρ a)
   | some (.sc (.bool false))=>mM S (ρ b)
   | _=>none
 | .alloc t=>match iW P t with
   | some z=>Dz (Ig S z)
   | none=>none
 | .box _ x=>match ρ x with
   | some v=>Dz (Ig S v)
   | none=>none
 | .build t q=>match w5 ρ q.toList with
   | some l=>mM S (Eu P t l)
   | none=>none
 | .buildSlice t n q=>match w5 ρ q.toList with
   | some l=>Dz (og P S t n l)
   | none=>none
 | .load t a=>match ρ a with
   | some p=>match kX S p with
     | some cs=>mM S (tX P t cs)
     | none=>none
   | none=>none
 | .store t a x=>match ρ a,ρ x with
   | some p,some v=>NQ (xR P S t p v)
   | _,_=>none
 | .nilCheck x=>match ρ x with
   | some (.ptr id i j)=>some (.val (.ptr id i j) S)
   | some (.dN cs)=>some (.val (.dN cs) S)
   | some (.fn (.func f) a b)=>some (.val (.fn (.func f) a b) S)
   | some (.rV id)=>some (.val (.rV id) S)
   | some (.eu t v)=>some (.val (.eu t v) S)
   | some y=>match Qe P y with
     | true=>some (.val y S)
     | false=>none
   | none=>none
 | .binOp op t x y _=>match ρ x,ρ y with
   | some (.sc .nilIface),some (.sc .nilIface)=>match P.underlying t with
     | some (.interface _)=>match uL x||uL y with
       | true=>mM S (nW op true)
       | false=>none
     | _=>none
   | some a,some b=>mM S (uH P op t a b)
   | _,_=>none
 | .unOp op _ x=>match ρ x with
   | some a=>mM S (Tg op a)
   | none=>none
 | .convert s d x=>match ρ x with
   | some a=>mM S (Fo P s d a)
   | none=>none
 | .makeInterface t x=>match P.underlying t,ρ x with
   | some (.interface _),_=>none
   | some _,some v=>some (.val (.eu t v) S)
   | _,_=>none
 | .makeFunc f a b=>match re ρ a.toList,re ρ b.toList with
   | some x,some y=>some (.val (.fn f x y) S)
   | _,_=>none
 | .makeMap _ none=>Dz (yb S)
 | .makeSlice t l c=>match ρ l,ρ c with
   | some x,some y=>Dz (nK P S t x y)
   | _,_=>none
 | .slice t x lo hi none=>match ρ x,(match lo with
     | none=>some none
     | some a=>match ρ a with
       | some v=>some (some v)
       | none=>none),(match hi with
     | none=>some none
     | some a=>match ρ a with
       | some v=>some (some v)
       | none=>none) with
   | some a,some l,some h=>mM S (vA P S t a l h)
   | _,_,_=>none
 | .slice t x none (some hi) (some r)=>match ρ x,ρ hi,ρ r with
   | some a,some h,some m=>mM S (Jo P t a h m)
   | _,_,_=>none
 | .slice t x (some lo) (some hi) (some r)=>match ρ x,ρ lo,ρ hi,ρ r with
   | some a,some l,some h,some m=>mM S (Qd P t a l h m)
   | _,_,_,_=>none
 | .fieldAddr s x f=>match ρ x with
   | some a=>mM S (tB P s a f)
   | none=>none
 | .field t x f=>match ρ x with
   | some a=>mM S (Et P t a f)
   | none=>none
 | .indexAddr t x e=>match ρ x,ρ e with
   | some a,some b=>mM S (dP P S t a.qV b)
   | _,_=>none
 | .index t x e=>match ρ x,ρ e with
   | some a,some b=>mM S (n6 P t a b)
   | _,_=>none
 | .lookup t x e ok=>match ρ x,ρ e with
   | some a,some b=>mM S (sx P S t a b ok)
   | _,_=>none
 | .mapUpdate t m k x=>match ρ m,ρ k,ρ x with
   | some a,some b,some c=>NQ (n9 P S t a b c)
   | _,_,_=>none
 | .insert t m k x=>match ρ m,ρ k,ρ x with
   | some a,some b,some c=>NQ (n9 P S t a b c)
   | _,_,_=>none
 | .range t x=>match ρ x with
   | some a=>Dz (xS P S t a)
   | none=>none
 | .next u s=>match ρ u with
   | some a=>Dz (zp S a s)
   | none=>none
 | .entry u=>match ρ u with
   | some a=>mM S (xT S a)
   | none=>none
 | .typeAssert x _ t ok=>match ρ x with
   | some a=>mM S (AE P t a ok)
   | none=>none
 | .extract t e=>match ρ t with
   | some (.bO A)=>mM S (nth A e)
   | _=>none
 | .call c=>xh P ρ S c
 | .defer c=>match re ρ c.args.toList with
   | some args=>match c.callee with
     | .value f=>match ρ f with
       | some (.fn (.func g) first cap)=>match nm P g with
         | true=>some (.rN g cap (first++args))
         | false=>none
       | _=>none
     | _=>none
   | none=>none
 | .panic x=>match ρ x with
   | some (.eu t v)=>some (.wI (.eu t v))
   | _=>none
 | _=>none
def kH (P:Program)(ρ' : Operand→Value)(S:ag)(g:Gh)(w:World)(o:Oper):de→Prop
 | .val v b=>∃ x w' g', (execOp ρ' o).run P w=.ok (.value x) w' ∧ VR g' v x∧Inv b g' w' ∧ Ext S g w b g' w'
 | .skip b=>∃ w' g', (execOp ρ' o).run P w=.ok .skip w' ∧ Inv b g' w' ∧ Ext S g w b g' w'
 | .call f args=>∃ xs,(execOp ρ' o).run P w=.ok (.enter f xs) w∧hJ g args xs
 | .rV id args=>∃ l xs,g.ph id=some l∧(execOp ρ' o).run P w=(Instr.yield l.cZ xs).run P w∧hJ g args xs
 | .rN f cap args=>∃ ys xs,(execOp ρ' o).run P w=.ok (.defer { target:=.fn (.func f) ys,args:=xs }) w∧hJ g cap ys∧hJ g args xs∧nm P f=true
 | .ae5=>(execOp ρ' o).run P w=.ok .recover w
 | .wI v=>∃ x,(execOp ρ' o).run P w=.halt (.panic x) w∧VR g v x
section
variable {P : Program} {ρ' : Operand → Value} {S : ag} {g : Gh} {w : World} {o : Oper}
theorem kH.v {r:Option AV}{res:de}(hi:Inv S g w)(h:mM S r=some res)(hx:∀ v,r=some v→∃ x,(execOp ρ' o).run P w=.ok (.value x) w∧VR g v x):kH P ρ' S g w o res:=by
 cases r with
 | none=>simp[mM] at h
 | some v=>
   simp only[mM,bj] at h;subst h
   obtain⟨x,e,b⟩:=hx v rfl
   exact⟨x,w,g,e,b,hi,Ext.refl _ _ _⟩
theorem kH.p {r:Option (AV×ag)}{res:de}(h:Dz r=some res)(hx:∀ v b,r=some (v,b)→∃ x w' g', (execOp ρ' o).run P w=.ok (.value x) w' ∧ VR g' v x∧Inv b g' w' ∧ Ext S g w b g' w'):kH P ρ' S g w o res:=by
 cases r with
 | none=>simp[Dz] at h
 | some p=>
   obtain⟨v,b⟩:=p
   simp only[Dz,bj] at h;subst h
   exact hx v b rfl
variable {res : de}
theorem kH.s {r:Option ag}(h:NQ r=some res)(hx:∀ b,r=some b→∃ w' g', (execOp ρ' o).run P w=.ok .skip w' ∧ Inv b g' w' ∧ Ext S g w b g' w'):kH P ρ' S g w o res:=by
 cases r with
 | none=>simp[NQ] at h
 | some b=>
   simp only[NQ,bj] at h;subst h
   exact hx b rfl
end
variable {res : de}
theorem DR (hi:Inv S g w){b:Builtin}{cs:Array Bool}{o:Oper}(h:lh P S b ts args=some res)(p:hJ g args xs)(m:∀ w', (execOp ρ' o).run P w' = (builtin b ts.toArray ty cs xs).run P w'):kH P ρ' S g w o res:=by
 have two:∀ {a b:AV},args=[a,b]→∃ x y,xs = #[x,y]∧VR g a x∧VR g b y:=by
   intro a b e
   subst e
   obtain⟨x,u,h1⟩:=p.get (k:=0) rfl
   obtain⟨y,C,h2⟩:=p.get (k:=1) rfl
   refine⟨x,y,?_,h1,h2⟩
   apply Array.ext'
   apply zm;intro k
   match k with
   | 0=>simpa using u
   | 1=>simpa using C
   | k+2=>rw[zo (by have:=p.1;simp at this ⊢;omega)];simp
 have one:∀ {a:AV},args=[a]→∃ x,xs = #[x]∧VR g a x:=by
   intro a e
   subst e
   obtain⟨x,u,h1⟩:=p.get (k:=0) rfl
   refine⟨x,?_,h1⟩
   apply Array.ext'
   apply zm;intro k
   match k with
   | 0=>simpa using u
   | k+1=>rw[zo (by have:=p.1;simp at this ⊢;omega)];simp
 unfold lh at h
 split at h<;>try (simp at h;done)
 · rename_i s x
   obtain⟨sv,r,rfl,h1,h2⟩:=two rfl
   split at h
   · rename_i v A i
     simp only[bj] at h
     subst h
     obtain⟨z,w', g', j,l,q,B⟩:=Gm (P:=P) (t:=ty) hi i h1 h2
     exact⟨z,w', g', by rw[m];simp[builtin,j],l,q,B⟩
   · split at h<;>simp only[bj,reduceCtorEq] at h
     rename_i v A i
     subst h
     obtain⟨z,w', g', j,l,q,B⟩:=Hn (P:=P) (t:=ty) hi i h1 h2
     exact⟨z,w', g', by rw[m];simp[builtin,j],l,q,B⟩
 · rename_i x
   obtain⟨r,rfl,h1⟩:=one rfl
   split at h<;>try (simp at h;done)
   rename_i t ts
   split at h<;>simp only[bj,reduceCtorEq] at h
   rename_i n i
   subst h
   exact⟨_,w,g,by rw[m];simp[builtin,J7 (P:=P) (ty:=ty) (ts:=ts) hi i h1],.sc rfl,hi,Ext.refl _ _ _⟩
 · rename_i x
   obtain⟨r,rfl,h1⟩:=one rfl
   split at h<;>try (simp at h;done)
   rename_i t ts
   split at h<;>simp only[bj,reduceCtorEq] at h
   rename_i n i
   subst h
   exact⟨_,w,g,by rw[m];simp[builtin,Mu (P:=P) (w:=w) (ty:=ty) (ts:=ts) i h1],.sc rfl,hi,Ext.refl _ _ _⟩
 · rename_i d x
   obtain⟨D,r,rfl,h1,h2⟩:=two rfl
   split at h<;>simp only[bj,reduceCtorEq] at h
   rename_i n A i
   subst h
   obtain⟨w', j,l,q⟩:=J5 (P:=P) (t:=ty) hi i h1 h2
   exact⟨_,w', g,by rw[m];simp[builtin,j],.sc rfl,l,q⟩
 · split at h<;>simp only[bj,reduceCtorEq] at h
   rename_i v i
   subst h
   obtain⟨z,j,l⟩:=Mv (P:=P) (w:=w) (ts:=ts.toArray) (t:=ty) i p
   exact⟨z,w,g,by rw[m];simp[builtin,j],l,hi,Ext.refl _ _ _⟩
 · split at h<;>simp only[bj,reduceCtorEq] at h
   rename_i v i
   subst h
   obtain⟨z,j,l⟩:=Mw (P:=P) (w:=w) (ts:=ts.toArray) (t:=ty) i p
   exact⟨z,w,g,by rw[m];simp[builtin,j],l,hi,Ext.refl _ _ _⟩
 · rename_i t v
   obtain⟨r,rfl,h1⟩:=one rfl
   simp only[bj] at h;subst h
   cases h1 with
   | eu h1=>exact⟨_,by rw[m];simp[builtin,Instr.panic],.eu h1⟩
 · rename_i x
   obtain⟨r,rfl,h1⟩:=one rfl
   split at h<;>simp only[bj,reduceCtorEq] at h
   rename_i A i
   subst h
   obtain⟨w', j,l,q⟩:=Hp (P:=P) (ty:=ty) hi i h1
   exact⟨.tuple #[],w', g,by rw[m];simp[builtin,j],.bO (xs := #[]) rfl (fun k a x e=>by simp at e),l,q⟩
 · simp only[bj] at h;subst h
   show(execOp ρ' o).run P w=_
   rw[m];simp[builtin]
end
end Go.Eng
namespace Go.Eng
noncomputable section
theorem j9 {P:Program}{ρ:Operand→Option AV}{j:Operand→Value}{S:ag}{g:Gh}{w:World}{o:Oper}{Z:de}(hi:Inv S g w)(i:K6 g ρ j)(h:gH P ρ S o.op=some Z):kH P j S g w o Z:=by
 obtain⟨dst,op,ty,pos,after,guard⟩:=o
 simp only at h
 cases op with
 | move x=>exact kH.v hi h fun v e=>⟨j x,by simp[execOp],i x v e⟩
 | assign x=>exact kH.v hi h fun v e=>⟨j x,by simp[execOp],i x v e⟩
 | pick c a b=>
   simp only[gH] at h
   split at h<;>try (simp at h;done)
   · rename_i D
     have K:=i c _ D
     generalize hx:j c=xc at K
     cases K with | sc _=>exact kH.v hi h fun v e=>⟨j a,by simp[execOp,hx,asBool],i a v e⟩
   · rename_i D
     have K:=i c _ D
     generalize hx:j c=xc at K
     cases K with | sc _=>exact kH.v hi h fun v e=>⟨j b,by simp[execOp,hx,asBool],i b v e⟩
 | alloc t=>
   simp only[gH] at h
   split at h<;>try (simp at h;done)
   rename_i z hz
   obtain⟨zc,hzr,hzv⟩:=jF (P:=P) (w:=w) (g:=g) hz
   refine kH.p h fun v N e=>?_
   obtain⟨a,w', g', u,A,E,H⟩:=Db (P:=P) (t:=t) hi e hzv
   exact⟨_,w', g', by simp[execOp,Instr.alloc,hzr,u],A,E,H⟩
 | box t x=>
   simp only[gH] at h
   split at h<;>try (simp at h;done)
   rename_i v0 hx
   refine kH.p h fun v N e=>?_
   obtain⟨a,w', g', u,A,E,H⟩:=Db (P:=P) (t:=t) hi e (i x v0 hx)
   exact⟨_,w', g', by simp[execOp,Instr.box,u],A,E,H⟩
 | build t ps=>
   simp only[gH] at h
   split at h<;>try (simp at h;done)
   rename_i l I
   refine kH.v hi h fun v e=>?_
   obtain⟨z,u,A⟩:=Hm (P:=P) (w:=w) (g:=g) (xs:=ps.map fun p=>(p.1,j p.2)) e (by simpa using Dd i I)
   exact⟨z,by simp only[execOp,Sem.run_bind];rw[u];simp,A⟩
 | buildSlice t n ps=>
   simp only[gH] at h
   split at h<;>try (simp at h;done)
   rename_i l I
   refine kH.p h fun v N e=>?_
   obtain⟨z,w', g', u,A,E,H⟩:=zM (P:=P) hi (xs:=ps.map fun p=>(p.1,j p.2)) e (by simpa using Dd i I)
   exact⟨z,w', g', by simp only[execOp,Sem.run_bind];rw[u];simp,A,E,H⟩
 | load t a=>
   simp only[gH] at h
   split at h<;>try (simp at h;done)
   rename_i p hp
   split at h<;>try (simp at h;done)
   rename_i cs hcs
   refine kH.v hi h fun v e=>?_
   obtain⟨y,u,A⟩:=A0 (P:=P) hi hcs e (i a p hp)
   exact⟨y,by simp[execOp,u],A⟩
 | store t a x=>
   simp only[gH] at h
   split at h<;>try (simp at h;done)
   rename_i p v hp C
   refine kH.s h fun N e=>?_
   obtain⟨w', u,A,E⟩:=Hh (P:=P) hi e (i a p hp) (i x v C)
   exact⟨w', g,by simp[execOp,u],A,E⟩
 | nilCheck x=>
   simp only[gH] at h
   split at h
   case h_7=>simp at h
   case h_6 y _ _ _ _ _ hx=>
     split at h<;>simp only[bj,reduceCtorEq] at h
     rename_i hb
     subst h
     have C:=i x _ hx
     refine⟨j x,w,g,?_,C,hi,Ext.refl _ _ _⟩
     obtain⟨Q,t,v,first,cap,gf,rfl,W⟩:=OW hb
     generalize hy:j x=y at C
     cases C with
     | fn O q2 q3 q4=>
       rename_i xs ys
       have G:0<xs.size:=by rw[←O];simp
       have J:xs[0]? = some xs[0]:=Ab G
       have L:=q3 0 (.eu t v) _ rfl J
       generalize hz:xs[0]=z at L J
       cases L with
       | eu _=>
         have X:P.types.size+Made.depth=(P.types.size+(Made.depth-1))+1:=by
           have:1≤Made.depth:=by decide
           omega
         simp only[execOp,hy,J,Sem.run_bind,run_program,Result.andThen_ok,X,J8 W]
         rfl
   all_goals
     simp only[bj] at h
     rename_i hx
     subst h
     have C:=i x _ hx
     refine⟨j x,w,g,?_,C,hi,Ext.refl _ _ _⟩
     generalize hy:j x=y at C
     cases C<;>simp[execOp,hy]
 | binOp op t x y yt=>
   simp only[gH] at h
   split at h<;>try (simp at h;done)
   · rename_i hx hy
     split at h<;>try (simp at h;done)
     rename_i ms hu
     split at h<;>try (simp at h;done)
     rename_i D
     have hx' := i x _ hx
     have hy' := i y _ hy
     refine kH.v hi h fun v e=>?_
     have hgd:(eqGuard op t x y .nilIface .nilIface).run P w=.ok () w:=by
       simp only[xe] at D
       rcases D with D | D
       · cases x<;>first | (simp[uL] at D;done) | (unfold eqGuard;split<;>simp)
       · cases y<;>first | (simp[uL] at D;done) | (unfold eqGuard;split<;>simp)
     generalize hxv:j x=xv at hx'
     generalize hyv:j y=yv at hy'
     cases hx' with | sc _=>?_
     cases hy' with | sc _=>?_
     have hq:(Op.equal t .nilIface .nilIface).run P w=.ok true w:=by
       have:∀ d,(Op.equalIn (d+1) t .nilIface .nilIface).run P w=.ok true w:=fun d=>by simp[Op.equalIn,ah hu]
       exact this 9999
     obtain⟨z,p,q⟩:=gq (P:=P) (w:=w) (g:=g) e hq (by simp[binOp]) (by simp[binOp])
     exact⟨z,by simp only[execOp,Sem.run_bind,hxv,hyv,hgd,Result.andThen_ok,p,Sem.run_pure],q⟩
   · rename_i a b _ hx hy
     refine kH.v hi h fun v e=>?_
     obtain⟨z,u,A,E⟩:=Mp (P:=P) (w:=w) (ox:=x) (oy:=y) e (i x a hx) (i y b hy)
     exact⟨z,by simp only[execOp,Sem.run_bind,u,A,Result.andThen_ok,Sem.run_pure],E⟩
 | unOp op t x=>
   simp only[gH] at h
   split at h<;>try (simp at h;done)
   rename_i a hx
   refine kH.v hi h fun v e=>?_
   obtain⟨z,u,A⟩:=OT (P:=P) (w:=w) e (i x a hx)
   exact⟨z,by simp[execOp,u],A⟩
 | convert s d x=>
   simp only[gH] at h
   split at h<;>try (simp at h;done)
   rename_i a hx
   refine kH.v hi h fun v e=>?_
   obtain⟨z,u,A⟩:=J3 (P:=P) (w:=w) e (i x a hx)
   exact⟨z,by simp[execOp,u],A⟩
 | makeInterface t x=>
   simp only[gH] at h
   split at h<;>simp only[bj,reduceCtorEq] at h
   rename_i d v hne hu hx
   subst h
   refine⟨.iface t (j x),w,g,?_,.eu (i x v hx),hi,Ext.refl _ _ _⟩
   simp only[execOp,Instr.makeInterface,Sem.run_bind,ah hu,Result.andThen_ok]
   cases d<;>first | exact(hne _ rfl).elim | simp
 | makeFunc f a b=>
   simp only[gH] at h
   split at h<;>simp only[bj,reduceCtorEq] at h
   rename_i x y hx hy
   subst h
   have h1:=tC i hx
   have h2:=tC i hy
   have M:(a.toList.map j).toArray=a.map j:=by apply Array.ext';simp
   have U:(b.toList.map j).toArray=b.map j:=by apply Array.ext';simp
   rw[M] at h1;rw[U] at h2
   exact⟨.func f (a.map j) (b.map j),w,g,by simp[execOp,Instr.makeFunc],.fn h1.1 h2.1 h1.2 h2.2,hi,Ext.refl _ _ _⟩
 | makeMap t r=>
   cases r with
   | some r=>simp[gH] at h
   | none=>
     refine kH.p h fun v N e=>?_
     obtain⟨z,w', g', u,A,E,H⟩:=DQ (P:=P) (t:=t) hi e
     exact⟨z,w', g', by simp[execOp,u],A,E,H⟩
 | makeSlice t l c=>
   simp only[gH] at h
   split at h<;>try (simp at h;done)
   rename_i x y hx hy
   refine kH.p h fun v N e=>?_
   obtain⟨z,w', g', u,A,E,H⟩:=Bp (P:=P) hi e (i l x hx) (i c y hy)
   exact⟨z,w', g', by simp[execOp,u],A,E,H⟩
 | slice t x lo R mx=>
   cases mx with
   | some m=>
     cases lo with
     | some lo2=>
       cases R with
       | none=>simp[gH] at h
       | some T=>
         simp only[gH] at h
         split at h<;>try (simp at h;done)
         rename_i a b c d hx hb D hd
         refine kH.v hi h fun v e=>?_
         obtain⟨z,u,A⟩:=Mr (P:=P) (w:=w) e (i x a hx) (i lo2 b hb) (i T c D) (i m d hd)
         exact⟨z,by simp only[execOp,Sem.run_bind,lP];rw[u];simp,A⟩
     | none=>
       cases R with
       | none=>simp[gH] at h
       | some T=>
         simp only[gH] at h
         split at h<;>try (simp at h;done)
         rename_i a b c hx hb D
         refine kH.v hi h fun v e=>?_
         obtain⟨z,u,A⟩:=J4 (P:=P) (w:=w) e (i x a hx) (i T b hb) (i m c D)
         exact⟨z,by simp only[execOp,Sem.run_bind,Option.map_none,lP];rw[u];simp,A⟩
   | none=>
     simp only[gH] at h
     split at h<;>try (simp at h;done)
     rename_i a l hh hx I hhi
     refine kH.v hi h fun v e=>?_
     have key:∀ {Y:Option Operand} {r:Option AV},(match Y with
         | none=>some none
         | some a=>match ρ a with
           | some v=>some (some v)
           | none=>none)=some r→(∀ a x,r=some a→Y.map j=some x→VR g a x)∧r.isSome=(Y.map j).isSome:=by
       intro Y r e
       cases Y with
       | none=>simp only[bj] at e;subst e;simp
       | some a=>
         simp only at e
         split at e<;>simp only[bj,reduceCtorEq] at e
         rename_i v C
         subst e
         refine⟨fun a' x M U=>?_,rfl⟩
         simp only[lP,bj] at M U
         subst M;subst U;exact i a v C
     obtain⟨k1,k2⟩:=key I
     obtain⟨k3,k4⟩:=key hhi
     obtain⟨z,u,A⟩:=Hk (P:=P) hi (lx:=lo.map j) (hx:=R.map j) e (i x a hx) k1 k3 k2 k4
     exact⟨z,by simp only[execOp,Sem.run_bind,Option.map_none];rw[u];simp,A⟩
 | fieldAddr s x f=>
   simp only[gH] at h
   split at h<;>try (simp at h;done)
   rename_i a hx
   refine kH.v hi h fun v e=>?_
   obtain⟨z,u,A⟩:=Bn (P:=P) (w:=w) e (i x a hx)
   exact⟨z,by simp[execOp,u],A⟩
 | field t x f=>
   simp only[gH] at h
   split at h<;>try (simp at h;done)
   rename_i a hx
   refine kH.v hi h fun v e=>?_
   obtain⟨z,u,A⟩:=Hj (P:=P) (w:=w) e (i x a hx)
   exact⟨z,by simp[execOp,u],A⟩
 | indexAddr t x V=>
   simp only[gH] at h
   split at h<;>try (simp at h;done)
   rename_i a b hx hy
   refine kH.v hi h fun v e=>?_
   obtain⟨z,u,A⟩:=Cl (P:=P) hi e (i x a hx) (i V b hy)
   exact⟨z,by simp[execOp,u],A⟩
 | index t x V=>
   simp only[gH] at h
   split at h<;>try (simp at h;done)
   rename_i a b hx hy
   refine kH.v hi h fun v e=>?_
   obtain⟨z,u,A⟩:=Ho (P:=P) (w:=w) e (i x a hx) (i V b hy)
   exact⟨z,by simp[execOp,u],A⟩
 | lookup t x V ok=>
   simp only[gH] at h
   split at h<;>try (simp at h;done)
   rename_i a b hx hy
   refine kH.v hi h fun v e=>?_
   obtain⟨z,u,A⟩:=Gn (P:=P) hi e (i x a hx) (i V b hy)
   exact⟨z,by simp[execOp,u],A⟩
 | mapUpdate t m k x=>
   simp only[gH] at h
   split at h<;>try (simp at h;done)
   rename_i a b c h1 h2 h3
   refine kH.s h fun N e=>?_
   obtain⟨w', u,A,E⟩:=xH (P:=P) hi e (i m a h1) (i k b h2) (i x c h3)
   exact⟨w', g,by simp[execOp,u],A,E⟩
 | insert t m k x=>
   simp only[gH] at h
   split at h<;>try (simp at h;done)
   rename_i a b c h1 h2 h3
   refine kH.s h fun N e=>?_
   obtain⟨w', u,A,E⟩:=xH (P:=P) hi e (i m a h1) (i k b h2) (i x c h3)
   exact⟨w', g,by simp[execOp,u],A,E⟩
 | range t x=>
   simp only[gH] at h
   split at h<;>try (simp at h;done)
   rename_i a hx
   refine kH.p h fun v N e=>?_
   obtain⟨z,w', g', u,A,E,H⟩:=Hr (P:=P) hi e (i x a hx)
   exact⟨z,w', g', by simp[execOp,u],A,E,H⟩
 | next it s=>
   simp only[gH] at h
   split at h<;>try (simp at h;done)
   rename_i a hx
   refine kH.p h fun v N e=>?_
   obtain⟨z,w', u,A,E,H⟩:=J6 (P:=P) (t:=ty) hi e (i it a hx)
   exact⟨z,w', g,by simp[execOp,u],A,E,H⟩
 | entry it=>
   simp only[gH] at h
   split at h<;>try (simp at h;done)
   rename_i a hx
   refine kH.v hi h fun v e=>?_
   obtain⟨z,u,A⟩:=Hs (P:=P) hi e (i it a hx)
   exact⟨z,by simp[execOp,u],A⟩
 | typeAssert x xt t ok=>
   simp only[gH] at h
   split at h<;>try (simp at h;done)
   rename_i a hx
   refine kH.v hi h fun v e=>?_
   obtain⟨z,u,A⟩:=Gq (P:=P) (w:=w) (xt:=xt) e (i x a hx)
   exact⟨z,by simp[execOp,u],A⟩
 | extract t V=>
   simp only[gH] at h
   split at h<;>try (simp at h;done)
   rename_i vs hx
   refine kH.v hi h fun v e=>?_
   rw[j4] at e
   have C:=i t _ hx
   generalize hy:j t=y at C
   cases C with
   | bO I hh=>
     obtain⟨x,M,U⟩:=hJ.get ⟨I,hh⟩ e
     exact⟨x,by simp[execOp,hy,Instr.extract,M],U⟩
 | call c=>
   simp only[gH,xh] at h
   split at h<;>try (simp at h;done)
   rename_i args F
   have B:=tC i F
   have ea:(c.args.toList.map j).toArray=c.args.map j:=by apply Array.ext';simp
   rw[ea] at B
   split at h
   · rename_i b D
     refine DR (cs:=(c.args.map fun | .const _=>true | _=>false)) (ty:=ty) hi h B fun w' => ?_
     simp only[execOp,resolve,D,Sem.run_bind,Sem.run_pure,Result.andThen_ok,invoke,Array.toArray_toList]
     rfl
   · rename_i r Q D
     split at h<;>try (simp at h;done)
     rename_i t v hx
     split at h<;>try (simp at h;done)
     rename_i f vb W
     split at h<;>simp only[bj,reduceCtorEq] at h
     rename_i hb
     subst h
     have C:=i r _ hx
     generalize hy:j r=y at C
     cases C with
     | eu C=>
       rename_i x
       obtain⟨y,hrun,hvy⟩:=U4 (w:=w) (n:=P.types.size+(Made.depth-1)) W C
       refine⟨#[y]++c.args.map j,?_,hJ.append (hJ.cons (xs:=[]) hvy (hJ.nil g)) B⟩
       have X:P.types.size+Made.depth=(P.types.size+(Made.depth-1))+1:=by
         have:1≤Made.depth:=by decide
         omega
       simp only[execOp,resolve,D,Sem.run_bind,Sem.run_pure,Result.andThen_ok,invoke,hy]
       have e0:(#[Value.iface t x]++c.args.map j)[0]? = some (.iface t x):=by rw[Oc (by simp)];rfl
       have M:(#[Value.iface t x]++c.args.map j).extract 1 (#[Value.iface t x]++c.args.map j).size=c.args.map j:=by
         apply Array.ext'
         rw[Array.toList_extract,List.extract_eq_take_drop]
         simp
         rw[Jr (by simp)]
       rw[e0]
       simp only[M,callMethod,Sem.run_bind,run_program,Result.andThen_ok,X,hrun,mU hb]
   · rename_i f D
     split at h<;>try (simp at h;done)
     · rename_i fg first cap hx
       split at h<;>simp only[bj,reduceCtorEq] at h
       rename_i hb
       subst h
       have C:=i f _ hx
       generalize hy:j f=y at C
       cases C with
       | fn O q2 q3 q4=>
         rename_i xs ys
         refine⟨xs++c.args.map j++ys,?_,hJ.append (hJ.append ⟨O,q3⟩ B) ⟨q2,q4⟩⟩
         simp only[execOp,resolve,D,Sem.run_bind,Sem.run_pure,Result.andThen_ok,invoke,hy,Deferred.ofValue,mU hb]
     rotate_left
     · rename_i y _ _ hx
       split at h<;>simp only[bj,reduceCtorEq] at h
       rename_i gf l hb
       subst h
       obtain⟨Q,t,v,first,cap,rfl,W,hbo,rfl⟩:=De hb
       have C:=i f _ hx
       generalize hy:j f=y at C
       cases C with
       | fn O q2 q3 q4=>
         rename_i xs ys
         have G:0<xs.size:=by rw[←O];simp
         have J:xs[0]? = some xs[0]:=Ab G
         have L:=q3 0 (.eu t v) _ rfl J
         generalize hz:xs[0]=z at L J
         cases L with
         | eu hvx=>
           rename_i x0
           have hxs:xs = #[Value.iface t x0]++xs.extract 1 xs.size:=by
            apply Array.ext'
            have:xs.toList=Value.iface t x0::xs.toList.tail:=by
             cases I:xs.toList with
             | nil=>rw[←zn,I] at J;simp at J
             | cons a r=>rw[←zn,I] at J;simp at J;simp[J]
            rw[BY,Array.toList_extract,List.extract_eq_take_drop]
            rw[this]
            simp
            rw[Jr (by simp)]
           have hq:hJ g first (xs.extract 1 xs.size):=by
            refine⟨by have:=O;simp at this ⊢;omega,fun k a y e e' => q3 (k+1) a y (by simpa using e) ?_⟩
            rw[Fk] at e'
            split at e'
            · rw[←e', Nat.add_comm]
            · simp at e'
           refine⟨#[x0]++(xs.extract 1 xs.size++c.args.map j),?_,hJ.append (hJ.cons (xs:=[]) hvx (hJ.nil g)) (hJ.append hq B)⟩
           have X:P.types.size+Made.depth=(P.types.size+(Made.depth-1))+1:=by
            have:1≤Made.depth:=by decide
            omega
           simp only[execOp,resolve,D,Sem.run_bind,Sem.run_pure,Result.andThen_ok,invoke,hy,Deferred.ofValue]
           have e0:(xs++c.args.map j)[0]? = some (.iface t x0):=by rw[Oc G];exact J
           have M:(xs++c.args.map j).extract 1 (xs++c.args.map j).size=xs.extract 1 xs.size++c.args.map j:=by
            apply Array.ext'
            have h1:1≤xs.toList.length:=by simp;omega
            simp only[Array.toList_extract,BY,List.extract_eq_take_drop,Array.size_append]
            rw[List.drop_append_of_le_length h1,Jr (by simp;omega),Jr (by simp)]
           rw[e0]
           simp only[M,callMethod,Sem.run_bind,run_program,Result.andThen_ok,X,FU W,mU hbo]
     · rename_i id hx
       simp only[bj] at h;subst h
       have C:=i f _ hx
       generalize hy:j f=y at C
       cases C with
       | rV I=>
         rename_i l
         refine⟨l,c.args.map j,I,?_,B⟩
         simp only[execOp,resolve,D,Sem.run_bind,Sem.run_pure,Result.andThen_ok,invoke,hy,Deferred.ofValue,Array.empty_append]
 | defer c=>
   simp only[gH] at h
   split at h<;>try (simp at h;done)
   rename_i args F
   have B:=tC i F
   have ea:(c.args.toList.map j).toArray=c.args.map j:=by apply Array.ext';simp
   rw[ea] at B
   split at h<;>try (simp at h;done)
   rename_i f D
   split at h<;>try (simp at h;done)
   rename_i fg first cap hx
   split at h<;>simp only[bj,reduceCtorEq] at h
   rename_i hb
   subst h
   have C:=i f _ hx
   generalize hy:j f=y at C
   cases C with
   | fn O q2 q3 q4=>
     rename_i xs ys
     refine⟨ys,xs++c.args.map j,?_,⟨q2,q4⟩,hJ.append ⟨O,q3⟩ B,hb⟩
     simp only[execOp,resolve,D,Sem.run_bind,Sem.run_pure,Result.andThen_ok,hy,Deferred.ofValue]
 | panic x=>
   simp only[gH] at h
   split at h<;>simp only[bj,reduceCtorEq] at h
   rename_i t v hx
   subst h
   have C:=i x _ hx
   generalize hy:j x=y at C
   cases C with
   | eu C=>exact⟨_,by simp[execOp,hy,Instr.panic],.eu C⟩
 | _=>simp[gH] at h
end
end Go.Eng
namespace Go.Eng
noncomputable section
inductive bf where
 | code (c : Code)
 | inBlock (id : Nat)
 | inLoop (c : Code)
 | inScope (c : Code)
 | ops (all : Array Oper) (todo : List Nat)
 | zb (id : Nat)
 | nX (id : Nat)
 | NY
inductive dq where
 | run
 | returning
 | panicking (chain : List (AV × Bool))
inductive gS where
 | call (fn : FuncId) (cap args : List AV)
 | mQ (id : Nat)
 | uC (bs : List Nat)
structure ae where
 fn : FuncId
 n : Nat
 mask : Nat
 loc : List (Nat × AV)
 qS : List (Nat × AV)
 todo : List bf
 defers : List gS
 mode : dq
 kind : CallKind
 cm : dq
 round : Option Nat
def tb (m n:Nat):Bool:=Nat.beq (Nat.land (Nat.shiftRight m n) 1) 1
def ae.get (F:ae)(t:Nat):Option AV:=
 match tb F.mask t with
 | true=>lk F.qS t
 | false=>lk F.loc t
def ae.set (F:ae)(t:Nat)(v:AV):ae:=
 match Nat.ble (t+1) F.n with
 | true=>match tb F.mask t with
   | true=>{ F with qS:=up F.qS t v }
   | false=>{ F with loc:=(t,v)::F.loc }
 | false=>F
def ae.put (F:ae)(d:Option Tmp)(v:AV):ae:=
 match d with
 | some t=>F.set t v
 | none=>F
def ae.eval (F:ae):Operand→Option AV
 | .tmp t=>F.get t
 | .const v=>some (ajW v)
 | .global _=>none
 | .func f=>some (.fn (.func f) [] [])
inductive w6 (all : Array Oper) : List Nat → List Nat → Prop
 | nil : w6 all [] []
 | cons {i : Nat} {l m : List Nat} (hi : i < all.size) (h : w6 all l m) : w6 all (i :: l) (i :: m)
 | rest (i0 wm sm : Nat) {fuel t : Nat} {aH : Array Bool} (hs : aH.size = all.size) (hl : ∀ j, aH.getD j false = decide (j < i0)) (hc : aH.toList.count false ≤ fuel) :
  w6 all [all.size, i0, wm, sm] (Region.linearise.go .any all fuel t aH [])
theorem w6.refl {all:Array Oper}:∀ {l:List Nat},(∀ i,i∈l→i<all.size)→w6 all l l:=by
 intro l
 induction l with
 | nil=>intro _;exact .nil
 | cons i l a=>intro h;exact .cons (h i (jU ..)) (a fun j b=>h j (K5 _ b))
inductive we (g : Gh) : bf → Item → Prop
 | code {c : Code} : we g (.code c) (.code c)
 | inBlock {id : Nat} : we g (.inBlock id) (.inBlock id)
 | inLoop {c : Code} : we g (.inLoop c) (.inLoop c)
 | inScope {c : Code} : we g (.inScope c) (.inScope c)
 | ops {all : Array Oper} {l m : List Nat} (h : w6 all l m) : we g (.ops all l) (.inRegion all m)
 | zb {id : Nat} {l : Loc} (hl : g.ph id = some l) : we g (.zb id) (.inRangeFunc l.cZ)
 | nX {id : Nat} {l : Loc} (hl : g.ph id = some l) : we g (.nX id) (.endRangeFunc l.cZ)
 | NY : we g .NY .beginRound
variable {g g' : Gh}
theorem we.mono (d:Gh.le g g'){a:bf}{b:Item}(h:we g a b):we g' a b:=by
 cases h with
 | code=>exact .code
 | inBlock=>exact .inBlock
 | inLoop=>exact .inLoop
 | inScope=>exact .inScope
 | ops h=>exact .ops h
 | zb c=>exact .zb (d.ph _ _ c)
 | nX c=>exact .nX (d.ph _ _ c)
 | NY=>exact .NY
inductive nA (g : Gh) : List bf → List Item → Prop
 | nil : nA g [] []
 | cons {a : bf} {b : Item} {l : List bf} {m : List Item} (h : we g a b) (t : nA g l m) : nA g (a :: l) (b :: m)
theorem nA.mono {g g' : Gh}(a:Gh.le g g'){l:List bf}{m:List Item}(h:nA g l m):nA g' l m:=by
 induction h with
 | nil=>exact .nil
 | cons h _ b=>exact .cons (h.mono a) b
inductive hZ (g : Gh) : List (AV × Bool) → List PanicEntry → Prop
 | nil : hZ g [] []
 | cons {v : AV} {x : Value} {b : Bool} {l : List (AV × Bool)} {m : List PanicEntry} (h : VR g v x) (t : hZ g l m) : hZ g ((v, b) :: l) ({ v := x, recovered := b } :: m)
theorem hZ.mono {g g' : Gh}(a:Gh.le g g'){l:List (AV×Bool)}{m:List PanicEntry}(h:hZ g l m):hZ g' l m:=by
 induction h with
 | nil=>exact .nil
 | cons h _ b=>exact .cons (h.mono a) b
inductive mS (g : Gh) : dq → FrameMode → Prop
 | run : mS g .run .run
 | returning : mS g .returning .returning
 | panicking {l : List (AV × Bool)} {m : List PanicEntry} (h : hZ g l m) : mS g (.panicking l) (.panicking m)
theorem mS.mono {g g' : Gh}(c:Gh.le g g'){a:dq}{b:FrameMode}(h:mS g a b):mS g' a b:=by
 cases h with
 | run=>exact .run
 | returning=>exact .returning
 | panicking h=>exact .panicking (h.mono c)
inductive jZ (P : Program) (g : Gh) : List gS → List Deferred → Prop
 | nil : jZ P g [] []
 | cons {f : FuncId} {cap args : List AV} {ys xs : Array Value} {l : List gS} {m : List Deferred} (hc : hJ g cap ys) (ha : hJ g args xs) (hb : nm P f = true) (t : jZ P g l m) :
  jZ P g (.call f cap args :: l) ({ target := .fn (.func f) ys, args := xs } :: m)
 | mQ {id : Nat} {l : Loc} {k : List gS} {m : List Deferred} (hl : g.ph id = some l) (t : jZ P g k m) : jZ P g (.mQ id :: k) ({ target := .collected l.cZ, args := #[] } :: m)
 | uC {bs : List Nat} {k : List gS} {m : List Deferred} (t : jZ P g k m) : jZ P g (.uC bs :: k) (bs.map (fun b => ({ target := .collected b, args := #[] } : Deferred)) ++ m)
theorem jZ.mono {P:Program}{g g' : Gh}(b:Gh.le g g'){l:List gS}{m:List Deferred}(h:jZ P g l m):jZ P g' l m:=by
 induction h with
 | nil=>exact .nil
 | cons c ha hb _ a=>exact .cons (c.mono b) (ha.mono b) hb a
 | mQ d _ a=>exact .mQ (b.ph _ _ d) a
 | uC _ a=>exact .uC a
def qY (g:Gh):Option Nat→Option Nat→Prop
 | none,none=>True
 | some id,some b=>∃ l,g.ph id=some l∧l.cZ=b
 | _,_=>False
theorem qY.mono (c:Gh.le g g'){a b:Option Nat}(h:qY g a b):qY g' a b:=by
 cases a<;>cases b<;>first | exact h | exact(let ⟨l,e,d⟩:=h;⟨l,c.ph _ _ e,d⟩)
structure nk (P : Program) (g : Gh) (F : ae) (fr : Frame) : Prop where
 fn : fr.fn = F.fn
 size : fr.tmps.size = F.n
 get : ∀ t v, F.get t = some v → ∃ x, fr.tmps[t]? = some x ∧ VR g v x
 todo : nA g F.todo fr.todo
 defers : jZ P g F.defers fr.defers
 mode : mS g F.mode fr.mode
 kind : fr.kind = F.kind
 round : qY g F.round fr.roundOf
theorem nk.mono {P:Program}{g g' : Gh}(c:Gh.le g g'){F:ae}{fr:Frame}(h:nk P g F fr):nk P g' F fr:=
 ⟨h.fn,h.size,fun t v e=>let ⟨x,a,b⟩:=h.get t v e;⟨x,a,b.mono c⟩,h.todo.mono c,h.defers.mono c,h.mode.mono c,h.kind,h.round.mono c⟩
def wR (g:Gh)(F:ae)(a cs:List Frame):Prop:=
 match F.kind with
 | .deferred=>∃ c rest m,a=c::rest∧cs={ c with mode:=m }::rest∧mS g F.cm m
 | _=>cs=a
theorem wR.mono {g g' : Gh}(f:Gh.le g g'){F:ae}{e cs:List Frame}(h:wR g F e cs):wR g' F e cs:=by
 unfold wR at *
 split at h
 · obtain⟨c,rest,m,a,b,d⟩:=h;exact⟨c,rest,m,a,b,d.mono f⟩
 · exact h
variable {F F' : ae}
theorem wR.congr {a cs:List Frame}(b:F'.kind=F.kind)(c:F'.cm=F.cm)(h:wR g F a cs):wR g F' a cs:=by
 grind[wR]
variable {P : Program} {fr : Frame}
theorem K6.of (h:nk P g F fr):K6 g F.eval fr.eval:=by
 intro x v e
 cases x with
 | tmp t=>
   obtain⟨y,hy,b⟩:=h.get t v e
   have:fr.eval (.tmp t)=y:=by simp[Frame.eval,po,hy]
   grind
 | const c=>simp only[ae.eval,bj] at e;subst e;exact uS g c
 | global _=>simp[ae.eval] at e
 | func f=>simp only[ae.eval,bj] at e;subst e;exact .fn rfl rfl (fun k a x e=>by simp at e) (fun k a x e=>by simp at e)
theorem nk.put {P:Program}{g:Gh}{F:ae}{fr:Frame}(h:nk P g F fr){d:Option Tmp}{v:AV}{x:Value}(p:VR g v x){tmps:Array Value}
   (i:tmps=match d with | some t=>fr.tmps.setIfInBounds t x | none=>fr.tmps):nk P g (F.put d v) { fr with tmps:=tmps }:=by
 cases d with
 | none=>simp only at i;subst i;exact h
 | some t=>
   simp only at i;subst i
   simp only[ae.put,ae.set]
   have f:=h.size
   have base:∀(F' : ae),F'.fn=F.fn→F'.n=F.n→F'.todo=F.todo→F'.defers=F.defers→F'.mode=F.mode→F'.kind=F.kind→F'.round=F.round →
       (∀ s u,F'.get s=some u→∃ y,(fr.tmps.setIfInBounds t x)[s]? = some y∧VR g u y)→nk P g F' { fr with tmps:=fr.tmps.setIfInBounds t x }:=by
     intro F' r a2 a3 a4 a5 a6 a7 w
     exact⟨by rw[r];exact h.fn,by grind,w,by rw[a3];exact h.todo,by rw[a4];exact h.defers,by rw[a5];exact h.mode,by rw[a6];exact h.kind,by rw[a7];exact h.round⟩
   split
   · rename_i hb
     have hb:=gw hb
     have c:t<fr.tmps.size:=by rw[f];exact hb
     split
     · rename_i j
       refine base _ rfl rfl rfl rfl rfl rfl rfl fun s u e=>?_
       simp only[ae.get] at e
       by_cases a:s=t
       · subst a
         rw[j] at e
         simp only[vG,bj] at e
         subst e
         exact⟨x,by simp[c],p⟩
       · have k:F.get s=some u:=by
          simp only[ae.get]
          split at e
          · rename_i b;rw[tA _ _ a] at e;first | exact e | (rw[show tb F.mask s=true from b];exact e)
          · rename_i b;first | exact e | (rw[show tb F.mask s=false from b];exact e)
         obtain⟨y,hy,hu⟩:=h.get s u k
         exact⟨y,by rw[sj,if_neg (Ne.symm a)];exact hy,hu⟩
     · rename_i j
       refine base _ rfl rfl rfl rfl rfl rfl rfl fun s u e=>?_
       simp only[ae.get] at e
       by_cases a:s=t
       · subst a
         rw[j] at e
         simp only[gT,vy,bj] at e
         subst e
         exact⟨x,by simp[c],p⟩
       · have k:F.get s=some u:=by
          simp only[ae.get]
          split at e
          · rename_i b;first | exact e | (rw[show tb F.mask s=true from b];exact e)
          · rename_i b
            simp only[gT] at e
            rw[show Nat.beq t s=false from by rw[pg];exact fun q=>a (oR q).symm] at e
            first | exact e | (rw[show tb F.mask s=false from b];exact e)
         obtain⟨y,hy,hu⟩:=h.get s u k
         exact⟨y,by rw[sj,if_neg (Ne.symm a)];exact hy,hu⟩
   · rename_i hb
     have o:¬ t<fr.tmps.size:=by
       intro c
       rw[GY (show t+1≤F.n by rw[←f];exact c)] at hb;simp at hb
     refine base F rfl rfl rfl rfl rfl rfl rfl fun s u e=>?_
     obtain⟨y,hy,hu⟩:=h.get s u e
     exact ⟨y, by rw[sj];split
                  · rename_i a;subst a;exact absurd (BG.1 hy).1 o
                  · exact hy,hu⟩
theorem ae.U5 (F:ae)(d:Option Tmp)(v:AV):(F.put d v).kind=F.kind∧(F.put d v).cm=F.cm∧(F.put d v).todo=F.todo∧(F.put d v).mode=F.mode∧(F.put d v).round=F.round∧(F.put d v).defers=F.defers:=by
 cases d with
 | none=>exact⟨rfl,rfl,rfl,rfl,rfl,rfl⟩
 | some t=>
   simp only[ae.put,ae.set]
   grind
def Reach (P:Program)(F:ae)(S:ag)(G:ae→ag→Prop):Prop:=
 ∀ (g:Gh) (w:World) (fr:Frame) (a cs:List Frame),nk P g F fr→wR g F a cs→Inv S g w →
  ∃ F' d g' w' b c,G F' d∧nk P g' F' b∧wR g' F' a c∧F'.kind=F.kind∧F'.fn=F.fn∧F'.round=F.round∧Inv d g' w' ∧ Ext S g w d g' w' ∧ Steps P (lone fr cs w) (lone b c w')
variable {S : ag} {G : ae → ag → Prop}
theorem Reach.done (h:G F S):Reach P F S G:=
 fun g w fr _ cs a b c=>⟨F,S,g,w,fr,cs,h,a,b,rfl,rfl,rfl,c,Ext.refl _ _ _,Steps.refl _ _⟩
theorem Reach.mono {j:ae→ag→Prop}(h:Reach P F S G)(k:∀ F' d,G F' d→j F' d):Reach P F S j:=
 fun g w fr e cs a b c=>let ⟨F', d,g', w', f,i,q,rest⟩:=h g w fr e cs a b c;⟨F', d,g', w', f,i,k _ _ q,rest⟩
theorem Reach.trans {P:Program}{F:ae}{S:ag}{G i:ae→ag→Prop}(h:Reach P F S G)(k:∀ F' j,G F' j→Reach P F' j i):Reach P F S i:=by
 intro g w fr d cs a b c
 obtain⟨F1,n,o,w1,e,f,q,p,r,v,x,y,s,z,A⟩:=h g w fr d cs a b c
 obtain⟨F2,B,C,D,t,u,E,H,I,J,K,L,M,N,O⟩:=k F1 n q o w1 e d f p r s
 grind[Ext.trans,Steps.trans]
theorem Reach.quiet (h:Reach P F' S G)(f:F'.kind=F.kind)(hf:F'.fn=F.fn)(o:F'.round=F.round)(i:F'.cm=F.cm)(hs:∀ g w fr cs,nk P g F fr→Inv S g w→∃ d,nk P g F' d∧step P (lone fr cs w)=.next (lone d cs w)):Reach P F S G:=by
 intro g w fr e cs a b c
 obtain⟨d,j,p⟩:=hs g w fr cs a c
 obtain⟨F2,q,r,s,k,n,t,u,v,x,y,z,A,B,C⟩:=h g w d e cs j (b.congr f i) c
 grind[Steps.head]
def wg (id:Nat):List bf→Option (List bf)
 | []=>none
 | .inBlock a::k=>match Nat.beq a id with
   | true=>some k
   | false=>wg id k
 | _::k=>wg id k
variable {l : List bf} {m : List Item}
theorem xx {id:Nat}(h:nA g l m):match wg id l with
   | some l' => ∃ b,exitTo id m=some b∧nA g l' b
   | none=>exitTo id m=none:=by
 induction h with
 | nil=>simp[wg,exitTo]
 | cons hh c d=>
   cases hh with
   | inBlock=>
     rename_i l m a
     simp only[wg,exitTo]
     cases hb:Nat.beq a id with
     | true=>
       simp_all
     | false=>
       have:(a==id)=false:=by
        grind[Nat.beq_refl]
       grind
   | _=>grind[wg,exitTo]
def Ri (F:ae):Option ae:=
 match F.mode with
 | .run=>match F.todo with
   | []=>match F.round with
     | none=>some { F with mode:=.returning }
     | some _=>none
   | .code .ret::_=>match F.round with
     | none=>some { F with mode:=.returning }
     | some _=>none
   | .code .skip::k=>some { F with todo:=k }
   | .code (.label _)::k=>some { F with todo:=k }
   | .inBlock _::k=>some { F with todo:=k }
   | .inScope _::k=>some { F with todo:=k }
   | .code (.seq a b)::k=>some { F with todo:=.code a :: .code b::k }
   | .code (.cond c a b)::k=>match F.eval c with
     | some (.sc (.bool true))=>some { F with todo:=.code a::k }
     | some (.sc (.bool false))=>some { F with todo:=.code b::k }
     | _=>none
   | .code (.block id b)::k=>some { F with todo:=.code b :: .inBlock id::k }
   | .code (.loop b)::k=>some { F with todo:=.code b :: .inLoop b::k }
   | .inLoop b::k=>some { F with todo:=.code b :: .inLoop b::k }
   | .code (.scope b)::k=>some { F with todo:=.code b :: .inScope b::k }
   | .code (.exit id)::k=>match wg id k with
     | some d=>some { F with todo:=d }
     | none=>none
   | .code (.region _ all false)::k=>some { F with todo:=.ops all (List.range all.size)::k,loc:=[] }
   | .ops _ []::k=>some { F with todo:=k,loc:=[] }
   | _=>none
 | _=>none
theorem nk.with {P:Program}{g:Gh}{F:ae}{fr:Frame}(h:nk P g F fr){l:List bf}{m:List Item}(a:nA g l m):nk P g { F with todo:=l } { fr with todo:=m }:=
 ⟨h.fn,h.size,h.get,a,h.defers,h.mode,h.kind,h.round⟩
theorem nk.Z9 (h:nk P g F fr)(a:nA g l m):nk P g { F with todo:=l,loc:=[] } { fr with todo:=m }:=by
 refine⟨h.fn,h.size,?_,a,h.defers,h.mode,h.kind,h.round⟩
 intro t v e
 simp only[ae.get] at e
 split at e
 · rename_i b
   exact h.get t v (by grind[ae.get])
 · simp[qX] at e
theorem OX (h:Ri F=some F'):F'.kind=F.kind∧F'.fn=F.fn∧F'.round=F.round∧F'.cm=F.cm:=by
 unfold Ri at h
 grind
theorem OY (h:Ri F=some F')(g:Gh)(w:World)(fr:Frame)(cs:List Frame)(hf:nk P g F fr) :
   ∃ r,nk P g F' r∧step P (lone fr cs w)=.next (lone r cs w):=by
 have u:=K6.of hf
 unfold Ri at h
 split at h<;>try (simp at h;done)
 rename_i q
 have n:fr.mode=.run:=by
   have:=hf.mode
   rw[q] at this
   generalize fr.mode=B at this ⊢
   cases this;rfl
 have j:=hf.todo
 have o:F.round=none→fr.roundOf=none:=by
   intro e;have:=hf.round;rw[e] at this;cases s:fr.roundOf with
   | none=>rfl
   | some b=>rw[s] at this;exact this.elim
 split at h
 · rename_i f
   rw[f] at j
   split at h<;>simp only[bj,reduceCtorEq] at h
   rename_i p
   subst h
   generalize d:fr.todo=td at j
   cases j
   refine⟨{ fr with mode:=.returning },⟨hf.fn,hf.size,hf.get,hf.todo,hf.defers,.returning,hf.kind,hf.round⟩,step_lone_go ?_⟩
   simp[stepG,stepG.exec,n,d,o p]
 · rename_i f
   rw[f] at j
   split at h<;>simp only[bj,reduceCtorEq] at h
   rename_i p
   subst h
   generalize d:fr.todo=td at j
   cases j with | cons h1 h2=>?_
   cases h1
   refine⟨{ fr with mode:=.returning },⟨hf.fn,hf.size,hf.get,hf.todo,hf.defers,.returning,hf.kind,hf.round⟩,step_lone_go ?_⟩
   simp[stepG,stepG.exec,n,d,o p]
 all_goals first | (simp at h;done) | (rename_i f;rw[f] at j;generalize d:fr.todo=td at j)
 · simp only[bj] at h;subst h
   cases j with | cons h1 h2=>?_
   cases h1
   exact⟨_,hf.with h2,step_lone_go (by simp[stepG,stepG.exec,n,d])⟩
 · simp only[bj] at h;subst h
   cases j with | cons h1 h2=>?_
   cases h1
   exact⟨_,hf.with h2,step_lone_go (by simp[stepG,stepG.exec,n,d])⟩
 · simp only[bj] at h;subst h
   cases j with | cons h1 h2=>?_
   cases h1
   exact⟨_,hf.with h2,step_lone_go (by simp[stepG,stepG.exec,n,d])⟩
 · simp only[bj] at h;subst h
   cases j with | cons h1 h2=>?_
   cases h1
   exact⟨_,hf.with h2,step_lone_go (by simp[stepG,stepG.exec,n,d])⟩
 · simp only[bj] at h;subst h
   cases j with | cons h1 h2=>?_
   cases h1
   exact⟨_,hf.with (.cons .code (.cons .code h2)),step_lone_go (by simp[stepG,stepG.exec,n,d])⟩
 · rename_i c a b k
   cases j with | cons h1 h2=>?_
   cases h1
   have hb:∀ t,F.eval c=some (.sc (.bool t))→fr.eval c=.bool t:=by
     intro t e;have:=u c _ e;generalize fr.eval c=y at this;cases this;rfl
   split at h<;>simp only[bj,reduceCtorEq] at h
   · rename_i e
     subst h
     exact⟨_,hf.with (.cons .code h2),step_lone_go (by simp[stepG,stepG.exec,n,d,hb _ e])⟩
   · rename_i e
     subst h
     exact⟨_,hf.with (.cons .code h2),step_lone_go (by simp[stepG,stepG.exec,n,d,hb _ e])⟩
 · simp only[bj] at h;subst h
   cases j with | cons h1 h2=>?_
   cases h1
   exact⟨_,hf.with (.cons .code (.cons .inBlock h2)),step_lone_go (by simp[stepG,stepG.exec,n,d])⟩
 · simp only[bj] at h;subst h
   cases j with | cons h1 h2=>?_
   cases h1
   exact⟨_,hf.with (.cons .code (.cons .inLoop h2)),step_lone_go (by simp[stepG,stepG.exec,n,d])⟩
 · simp only[bj] at h;subst h
   cases j with | cons h1 h2=>?_
   cases h1
   exact⟨_,hf.with (.cons .code (.cons .inLoop h2)),step_lone_go (by simp[stepG,stepG.exec,n,d])⟩
 · simp only[bj] at h;subst h
   cases j with | cons h1 h2=>?_
   cases h1
   exact⟨_,hf.with (.cons .code (.cons .inScope h2)),step_lone_go (by simp[stepG,stepG.exec,n,d])⟩
 · rename_i v C
   cases j with | cons h1 h2=>?_
   cases h1
   split at h<;>simp only[bj,reduceCtorEq] at h
   rename_i D x
   subst h
   have:=xx (id:=v) h2
   rw[x] at this
   obtain⟨E,z,A⟩:=this
   exact⟨_,hf.with A,step_lone_go (by simp[stepG,stepG.exec,n,d,z])⟩
 · simp only[bj] at h;subst h
   cases j with | cons h1 h2=>?_
   cases h1
   exact⟨_,hf.Z9 (.cons (.ops (w6.refl fun i hi=>List.mem_range.1 hi)) h2),step_lone_go (by simp[stepG,stepG.exec,n,d])⟩
 · simp only[bj] at h;subst h
   cases j with | cons h1 h2=>?_
   cases h1
   rename_i s
   cases s
   exact⟨_,hf.Z9 h2,step_lone_go (by simp[stepG,stepG.exec,n,d])⟩
theorem Reach.ae6 (hs:Ri F=some F')(h:Reach P F' S G):Reach P F S G:=by
 obtain⟨a,b,c,d⟩:=OX hs
 exact h.quiet a b c d fun g w fr cs hf _=>OY hs g w fr cs hf
end
end Go.Eng
namespace Go.Eng
noncomputable section
def tf (F:ae)(all:Array Oper)(o:Oper):Option Bool:=
 match o.guard with
 | none=>some true
 | some (j,a)=>match all[j]? with
   | some c=>match c.dst with
     | some d=>match F.get d with
       | some (.sc (.bool b))=>some (b==a)
       | some (.bO [])=>some false
       | _=>none
     | none=>none
   | none=>none
variable {P : Program} {g : Gh} {F : ae} {fr : Frame} {all : Array Oper} {o : Oper}
theorem lj (hf:nk P g F fr){b:Bool}(h:tf F all o=some b):Region.wanted o (yielded all fr.tmps)=b:=by
 unfold tf at h
 split at h
 · grind[Region.wanted]
 · rename_i j m e
   split at h<;>try (simp at h;done)
   rename_i n p
   split at h<;>try (simp at h;done)
   rename_i d q
   split at h<;>simp only[bj,reduceCtorEq] at h
   · rename_i c a
     subst h
     obtain⟨x,hx,l⟩:=hf.get d _ a
     cases l
     grind[Region.wanted,yielded]
   · rename_i a
     subst h
     obtain⟨x,hx,l⟩:=hf.get d _ a
     cases l
     grind[Region.wanted,yielded]
def cr : Op→Bool
 | .defer _=>true
 | .call c=>match c.callee with
   | .builtin .recover=>true
   | _=>false
 | _=>false
section
variable {P : Program} {fr : Frame} {cs : List Frame} {w : World} {all : Array Oper} {i : Nat} {rest : List Nat} {k : List Item} {o : Oper}
theorem gL (c:fr.mode=.run)(a:fr.todo=.inRegion all (i::rest)::k)(b:all[i]? = some o)(d:Region.wanted o (yielded all fr.tmps)=true)(e:fr.roundOf=none∨cr o.op=false) :
  stepG P true { frame:=fr,callers:=cs,status:=.running,dying:=none } w=stepG.apply P true fr cs none (execOp fr.eval o) w:=by
 have h1:stepG P true { frame:=fr,callers:=cs,status:=.running,dying:=none } w=stepG.oper P true fr cs none w:=by
  grind[stepG,stepG.exec]
 rw[h1]
 have h2:fr.oper? = some o:=by simp[Frame.oper?, a,b]
 grind[stepG.oper,cr]
theorem yW (a:fr.mode=.run)(b:fr.todo=.inRegion all (i::rest)::k)(c:all[i]? = some o)(d:Region.wanted o (yielded all fr.tmps)=false) :
 step P (lone fr cs w)=.next (lone (fr.finish undef) cs w):=step_lone_go (by simp[stepG,stepG.exec,a,b,c,d])
theorem yc (a:fr.todo=.inRegion all (i::rest)::k)(b:all[i]? = some o)(v:Value) :
  fr.finish v={ fr with tmps:=(match o.dst with | some t=>fr.tmps.setIfInBounds t v | none=>fr.tmps),todo:=.inRegion all rest::k }:=by
 grind[Frame.finish]
variable {v : Value} {w' : World}
theorem AF (hs:stepG P true { frame:=fr,callers:=cs,status:=.running,dying:=none } w=stepG.apply P true fr cs none (execOp fr.eval o) w)(a:(execOp fr.eval o).run P w=.ok (.value v) w'):step P (lone fr cs w)=.next (lone (fr.finish v) cs w'):=step_lone_go (by rw[hs];simp[stepG.apply,a])
theorem Df (hs:stepG P true { frame:=fr,callers:=cs,status:=.running,dying:=none } w=stepG.apply P true fr cs none (execOp fr.eval o) w)(a:(execOp fr.eval o).run P w=.ok .skip w'):step P (lone fr cs w)=.next (lone (fr.finish undef) cs w'):=step_lone_go (by rw[hs];simp[stepG.apply,a])
theorem U6 (hs:stepG P true { frame:=fr,callers:=cs,status:=.running,dying:=none } w=stepG.apply P true fr cs none (execOp fr.eval o) w)(a:(execOp fr.eval o).run P w=.halt (.panic v) w'):step P (lone fr cs w)=.next (lone (fr.raise [{ v,recovered:=false }]) cs w'):=step_lone_go (by rw[hs];simp[stepG.apply,a])
theorem U7 {d:Deferred}(hs:stepG P true { frame:=fr,callers:=cs,status:=.running,dying:=none } w=stepG.apply P true fr cs none (execOp fr.eval o) w)(a:(execOp fr.eval o).run P w=.ok (.defer d) w'):step P (lone fr cs w)=.next (lone ({ fr with defers:=d::fr.defers }.finish undef) cs w'):=step_lone_go (by rw[hs];simp[stepG.apply,a])
variable {f : FuncId}
theorem FV {args:Array Value}(hs:stepG P true { frame:=fr,callers:=cs,status:=.running,dying:=none } w=stepG.apply P true fr cs none (execOp fr.eval o) w)(a:fr.todo=.inRegion all (i::rest)::k)(b:(execOp fr.eval o).run P w=.ok (.enter f args) w'):step P (lone fr cs w)=.next (lone (Frame.enter P f args .normal) (fr::cs) w'):=
 step_lone_go (by rw[hs];simp[stepG.apply,b,a])
end
def ae.after (F:ae)(o:Oper)(v:AV)(all:Array Oper)(rest:List Nat)(k:List bf):ae:={ F.put o.dst v with todo:=.ops all rest::k }
theorem ae.iK (F:ae)(o:Oper)(v:AV)(all:Array Oper)(rest:List Nat)(k:List bf) :
  (F.after o v all rest k).kind=F.kind∧(F.after o v all rest k).fn=F.fn∧(F.after o v all rest k).round=F.round∧(F.after o v all rest k).cm=F.cm:=by
 have h:=F.U5 o.dst v
 have a:(F.put o.dst v).fn=F.fn:=by
  unfold ae.put ae.set
  grind
 exact⟨h.1,a,h.2.2.2.2.1,h.2.1⟩
structure aft (g : Gh) (all : Array Oper) (l : List Nat) (k : List bf) (q : List Nat × List Item) : Prop where
 r : w6 all l q.1
 t : nA g k q.2
theorem aft.mono {g g' : Gh}(a:Gh.le g g'){all:Array Oper}{l:List Nat}{k:List bf}{q:List Nat×List Item}(h:aft g all l k q):aft g' all l k q:=⟨h.r,h.t.mono a⟩
theorem nk.after {P:Program}{g:Gh}{F:ae}{fr:Frame}(h:nk P g F fr){all:Array Oper}{i:Nat}{rest:List Nat}{k:List bf}{m:List Nat×List Item}{o:Oper}{v:AV}{x:Value}
  (b:fr.todo=.inRegion all (i::m.1)::m.2) (a:aft g all rest k m) (c:all[i]? = some o) (d:VR g v x):nk P g (F.after o v all rest k) (fr.finish x):=by
 rw[yc b c]
 exact(h.put d rfl).with (.cons (.ops a.r) a.t)
variable {i : Nat} {k : List bf}
theorem nk.split (h:nk P g F fr){l:List Nat}(b:F.todo=.ops all (i::l)::k)(c:all[i]? = some o):∃ m:List Nat×List Item,fr.todo=.inRegion all (i::m.1)::m.2∧aft g all l k m:=by
 have:=h.todo
 rw[b] at this
 generalize d:fr.todo=td at this
 cases this with | cons h1 h2=>?_
 cases h1 with | ops a=>?_
 cases a with
 | cons _ a=>exact⟨(_,_),rfl,a,h2⟩
 | rest=>simp at c
theorem nk.runs (h:nk P g F fr)(a:F.mode=.run):fr.mode=.run:=by
 have:=h.mode
 rw[a] at this
 generalize fr.mode=b at this ⊢
 cases this;rfl
theorem nk.JI (h:nk P g F fr)(a:F.round=none):fr.roundOf=none:=by
 have:=h.round
 rw[a] at this
 cases e:fr.roundOf with
 | none=>rfl
 | some b=>rw[e] at this;exact this.elim
section
variable {P : Program} {F : ae} {S : ag} {G : ae → ag → Prop} {all : Array Oper} {i : Nat} {rest : List Nat} {k : List bf} {o : Oper}
theorem Reach.FB (n:F.mode=.run)(p:F.todo=.ops all (i::rest)::k)(j:all[i]? = some o)(q:tf F all o=some false)(h:Reach P (F.after o (.bO []) all rest k) S G):Reach P F S G:=by
 obtain⟨a,b,c,d⟩:=F.iK o (.bO []) all rest k
 refine h.quiet a b c d fun g w fr cs hf _=>?_
 obtain⟨m,l,r⟩:=hf.split p j
 exact⟨fr.finish undef,hf.after l r j (.bO rfl (fun k a x e=>by simp at e)),yW (hf.runs n) l j (lj hf q)⟩
variable {S' : ag}
theorem Reach.DG {F' : ae}(h:Reach P F' S' G)(m:F'.kind=F.kind)(hf:F'.fn=F.fn)(p:F'.round=F.round)(q:F'.cm=F.cm)(hs:∀ g w fr cs,nk P g F fr→Inv S g w→∃ d w' g', nk P g' F' d∧Inv S' g' w' ∧ Ext S g w S' g' w' ∧ Steps P (lone fr cs w) (lone d cs w')):Reach P F S G:=by
 intro g w fr e cs a b c
 obtain⟨d,w', g', r,s,n,t⟩:=hs g w fr cs a c
 obtain⟨F2,u,x,y,j,l,z,A,B,C,D,E,H,I,J⟩:=h g' w' d e cs r ((b.mono n.oS).congr m q) s
 exact⟨F2,u,x,y,j,l,z,A,B,C.trans m,D.trans hf,E.trans p,H,n.trans I,Steps.trans t J⟩
theorem Reach.Og {v:AV}(p:F.mode=.run)(q:F.todo=.ops all (i::rest)::k)(e:all[i]? = some o)(r:tf F all o=some true)(l:cr o.op=false)(ha:gH P F.eval S o.op=some (.val v S'))(h:Reach P (F.after o v all rest k) S' G):Reach P F S G:=by
 obtain⟨a,b,c,d⟩:=F.iK o v all rest k
 refine h.DG a b c d fun g w fr cs hf hi=>?_
 obtain⟨m,n,s⟩:=hf.split q e
 obtain⟨x,w', g', t,u,y,j⟩:=j9 hi (K6.of hf) ha
 exact⟨fr.finish x,w', g', (hf.mono j.oS).after n (s.mono j.oS) e u,y,j,.one (AF (gL (hf.runs p) n e (lj hf r) (.inr l)) t)⟩
theorem Reach.Qr (q:F.mode=.run)(r:F.todo=.ops all (i::rest)::k)(j:all[i]? = some o)(s:tf F all o=some true)(n:cr o.op=false)(ha:gH P F.eval S o.op=some (.skip S'))(h:Reach P (F.after o (.bO []) all rest k) S' G):Reach P F S G:=by
 obtain⟨a,b,c,d⟩:=F.iK o (.bO []) all rest k
 refine h.DG a b c d fun g w fr cs hf hi=>?_
 obtain⟨m,p,t⟩:=hf.split r j
 obtain⟨w', g', u,y,l⟩:=j9 hi (K6.of hf) ha
 exact⟨fr.finish undef,w', g', (hf.mono l.oS).after p (t.mono l.oS) j (.bO rfl (fun k a x e=>by simp at e)),y,l,.one (Df (gL (hf.runs q) p j (lj hf s) (.inr n)) u)⟩
theorem Reach.ad9 {v:AV}(d:F.mode=.run)(e:F.todo=.ops all (i::rest)::k)(c:all[i]? = some o)(j:tf F all o=some true)(b:cr o.op=false)
  (ha:gH P F.eval S o.op=some (.wI v)) (h:Reach P { F with mode:=.panicking [(v,false)] } S G):Reach P F S G:=by
 refine h.DG rfl rfl rfl rfl fun g w fr cs hf hi=>?_
 obtain⟨m,l,q⟩:=hf.split e c
 obtain⟨x,n,p⟩:=j9 hi (K6.of hf) ha
 have a:=hf.runs d
 refine⟨fr.raise [{ v:=x,recovered:=false }],w,g,?_,hi,Ext.refl _ _ _,.one (U6 (gL a l c (lj hf j) (.inr b)) n)⟩
 have:fr.raise [{ v:=x,recovered:=false }]={ fr with mode:=.panicking [{ v:=x,recovered:=false }] }:=by simp[Frame.raise,a]
 rw[this]
 exact⟨hf.fn,hf.size,hf.get,hf.todo,hf.defers,.panicking (.cons p .nil),hf.kind,hf.round⟩
variable {f : FuncId} {args : List AV}
theorem Reach.aea {cap:List AV}(p:F.mode=.run)(q:F.todo=.ops all (i::rest)::k)(j:all[i]? = some o)(r:tf F all o=some true)(s:F.round=none)(ha:gH P F.eval S o.op=some (.rN f cap args))(h:Reach P { F.after o (.bO []) all rest k with defers:=.call f cap args::F.defers } S G):Reach P F S G:=by
 obtain⟨a,b,c,d⟩:=F.iK o (.bO []) all rest k
 refine h.DG a b c d fun g w fr cs hf hi=>?_
 obtain⟨m,n,t⟩:=hf.split q j
 obtain⟨ys,xs,u,y,z,A⟩:=j9 hi (K6.of hf) ha
 have l:=hf.runs p
 refine⟨_,w,g,?_,hi,Ext.refl _ _ _,.one (U7 (gL l n j (lj hf r) (.inl (hf.JI s))) u)⟩
 have h1:=hf.after (v:=.bO []) (x:=undef) n t j (.bO rfl (fun k a x e=>by simp at e))
 have h2:({ fr with defers:={ target:=.fn (.func f) ys,args:=xs }::fr.defers }:Frame).finish undef={ fr.finish undef with defers:={ target:=.fn (.func f) ys,args:=xs }::fr.defers }:=by
  rw[yc n j]
  exact yc (fr:={ fr with defers:={ target:=.fn (.func f) ys,args:=xs }::fr.defers }) n j undef
 rw[h2]
 exact⟨h1.fn,h1.size,h1.get,h1.todo,.cons y z A hf.defers,h1.mode,h1.kind,h1.round⟩
end
inductive gQ where
 | ret (v : AV)
 | wI (chain : List (AV × Bool))
def N3 (g:Gh):gQ→Ending→Prop
 | .ret v,.returned x=>VR g v x
 | .wI l,.panicked m=>hZ g l m
 | _,_=>False
theorem N3.mono {g g' : Gh}(a:Gh.le g g'){r:gQ}{e:Ending}(h:N3 g r e):N3 g' r e:=by
 cases r<;>cases e<;>first | exact VR.mono a h | exact hZ.mono a h | exact h
def fU (P:Program)(f:FuncId)(args:List AV)(S:ag)(Q:gQ→ag→Prop):Prop:=
 ∀ (g:Gh) (w:World) (xs:Array Value),hJ g args xs→Inv S g w →
  Calls P f xs w fun e w' => ∃ r S' g', Q r S' ∧ N3 g' r e∧Inv S' g' w' ∧ Ext S g w S' g' w'
theorem fU.mono {P:Program}{f:FuncId}{args:List AV}{S:ag}{Q c:gQ→ag→Prop}(h:fU P f args S Q)(d:∀ r S', Q r S' → c r S'):fU P f args S c:=
 fun g w xs hx hi=>(h g w xs hx hi).mono fun _ _ ⟨r,S', g', a,b⟩=>⟨r,S', g', d _ _ a,b⟩
def ae.back (F:ae)(o:Oper)(all:Array Oper)(rest:List Nat)(k:List bf):gQ→ae
 | .ret v=>F.after o v all rest k
 | .wI l=>{ F with mode:=.panicking l }
variable {f : FuncId} {args : List AV}
theorem Reach.xU {S:ag}{G:ae→ag→Prop}{rest:List Nat}{Q:gQ→ag→Prop}(T:F.mode=.run)(U:F.todo=.ops all (i::rest)::k)(D:all[i]? = some o)(V:tf F all o=some true)(H:cr o.op=false)(ha:gH P F.eval S o.op=some (.call f args))(W:fU P f args S Q)(h:∀ r S', Q r S' → Reach P (F.back o all rest k r) S' G):Reach P F S G:=by
 intro g w fr z cs hf I hi
 obtain⟨m,E,X⟩:=hf.split U D
 obtain⟨xs,Y,Z⟩:=j9 hi (K6.of hf) ha
 have t:=hf.runs T
 have s:=FV (P:=P) (cs:=cs) (gL t E D (lj hf V) (.inr H)) E Y
 obtain⟨e,w', A,⟨r,S', g', hq,b,J,hx⟩,j,_,n⟩:=W g w xs Z hi (fr::cs)
 have R:∀ p,step P (lone A (fr::cs) w')=.next (lone p cs w')→nk P g' (F.back o all rest k r) p→Steps P (lone (Frame.enter P f xs .normal) (fr::cs) w) (lone A (fr::cs) w') →
     ∃ F' u q y B C,G F' u∧nk P q F' B∧wR q F' z C∧F'.kind=F.kind∧F'.fn=F.fn∧F'.round=F.round∧Inv u q y∧Ext S g w u q y∧Steps P (lone fr cs w) (lone B C y):=by
   intro p K L M
   have a:(F.back o all rest k r).kind=F.kind∧(F.back o all rest k r).fn=F.fn∧(F.back o all rest k r).round=F.round∧(F.back o all rest k r).cm=F.cm:=by
     cases r with
     | ret v=>exact F.iK o v all rest k
     | wI l=>exact⟨rfl,rfl,rfl,rfl⟩
   obtain⟨F2,S2,g2,w2,N,O,q', p1,p2,p3,p4,p5,p6,p7,p8⟩:=h r S' hq g' w' p z cs L ((I.mono hx.oS).congr a.1 a.2.2.2) J
   exact⟨F2,S2,g2,w2,N,O,q', p1,p2,p3.trans a.1,p4.trans a.2.1,p5.trans a.2.2.1,p6,hx.trans p7,Steps.head s (Steps.trans M (Steps.head K p8))⟩
 cases r with
 | ret v=>
   cases e with
   | returned x=>exact R _ (step_leave_returned n) ((hf.mono hx.oS).after E (X.mono hx.oS) D b) j
   | panicked c=>exact b.elim
   | outgrown=>exact b.elim
 | wI l=>
   cases e with
   | returned x=>exact b.elim
   | panicked c=>
     refine R _ (step_leave_panicked n) ?_ j
     have d:=hf.mono hx.oS
     have:fr.raise c={ fr with mode:=.panicking c }:=by simp[Frame.raise,t]
     rw[this]
     exact⟨d.fn,d.size,d.get,d.todo,d.defers,.panicking b,d.kind,d.round⟩
   | outgrown=>exact b.elim
end
end Go.Eng
namespace Go.Eng
noncomputable section
def wV (P:Program)(F:ae)(S:ag):List ResultVar→Option (List AV)
 | []=>some []
 | .tmp t::r=>match F.get t with
   | some v=>match wV P F S r with
     | some l=>some (v::l)
     | none=>none
   | none=>none
 | .cell a t::r=>match F.get a with
   | some p=>match kX S p with
     | some cs=>match tX P t cs with
       | some v=>match wV P F S r with
         | some l=>some (v::l)
         | none=>none
       | none=>none
     | none=>none
   | none=>none
def uI (P:Program)(fn:Func)(F:ae)(S:ag):Option AV:=
 match wV P F S fn.results.toList with
 | some [v]=>some v
 | some l=>some (.bO l)
 | none=>none
variable {P : Program} {F : ae} {S : ag} {g : Gh} {w : World} {fr : Frame}
theorem OZ (hf:nk P g F fr)(hi:Inv S g w):∀ {d:List ResultVar} {l:List AV},wV P F S d=some l →
   ∃ xs,(d.mapM (fun | .tmp t=>pure (fr.tmps.getD t undef) | .cell a t=>do loadVar t (←asAddr (fr.tmps.getD a undef))):Sem (List Value)).run P w=.ok xs w∧hJ g l xs.toArray:=by
 intro d
 induction d with
 | nil=>intro l h;simp only[wV,bj] at h;subst h;exact⟨[],by simp,hJ.nil g⟩
 | cons r d s=>
   intro l h
   cases r with
   | tmp t=>
     simp only[wV] at h
     split at h<;>try (simp at h;done)
     rename_i v j
     split at h<;>simp only[bj,reduceCtorEq] at h
     rename_i l' k
     subst h
     obtain⟨xs,u,n⟩:=s k
     obtain⟨x,z,i⟩:=hf.get t v j
     refine⟨x::xs,?_,hJ.cons i n⟩
     simp_all
   | cell a t=>
     simp only[wV] at h
     split at h<;>try (simp at h;done)
     rename_i p A
     split at h<;>try (simp at h;done)
     rename_i cs e
     split at h<;>try (simp at h;done)
     rename_i v j
     split at h<;>simp only[bj,reduceCtorEq] at h
     rename_i l' k
     subst h
     obtain⟨xs,u,n⟩:=s k
     obtain⟨x,z,i⟩:=hf.get a p A
     obtain⟨y,B,C⟩:=A0 (P:=P) hi e j i
     obtain⟨b,o,c,D,fz,rfl,_,_⟩:=xG hi e i
     refine⟨y::xs,?_,hJ.cons C n⟩
     have:fr.tmps.getD a undef=.pointer (some ⟨b,o,none⟩):=by simp[po,z]
     have q:(loadVar t ⟨b,o,none⟩).run P w=.ok y w:=by simpa [Instr.loadAt,Instr.sureAddr] using B
     have ha:(asAddr (fr.tmps.getD a undef)).run P w=.ok ⟨b,o,none⟩ w:=by rw[this];rfl
     simp only[List.mapM_cons,Sem.run_bind,ha,Sem.run_pure,Result.andThen_ok,q]
     rw[u];simp
variable {fn : Func}
theorem Dg (hf:nk P g F fr)(hi:Inv S g w){v:AV}(h:uI P fn F S=some v):∃ x,(results fn fr.tmps).run P w=.ok x w∧VR g v x:=by
 unfold uI at h
 have n:∀ l,wV P F S fn.results.toList=some l→∃ xs:List Value,(results fn fr.tmps).run P w=.ok (if h:xs.toArray.size=1 then xs.toArray[0] else .tuple xs.toArray) w∧hJ g l xs.toArray:=by
   intro l e
   obtain⟨xs,i,d⟩:=OZ hf hi e
   refine⟨xs,?_,d⟩
   simp only[results,Sem.run_bind]
   rw[Array.mapM_eq_mapM_toList]
   simp only[Sem.run_map]
   refine(congrArg (fun r=>Result.andThen (Result.andThen r fun a w' => Result.ok a.toArray w') fun a w' => Sem.run P (pure (if h:a.size=1 then a[0] else Value.tuple a)) w') i).trans ?_
   simp
 split at h
 · rename_i v' e
   simp only[bj] at h;subst h
   obtain⟨xs,i,d⟩:=n _ e
   obtain⟨x,o,p⟩:=d.get (k:=0) rfl
   have hs:xs.toArray.size=1:=d.1.symm
   grind
 · rename_i l j e
   simp only[bj] at h;subst h
   obtain⟨xs,i,d⟩:=n _ e
   have hs:¬ xs.toArray.size=1:=by
    intro hs
    have h1:=d.1
    rw[hs] at h1
    match l,h1 with
    | [v],_=>exact j v rfl
   exact⟨_,by rw[i,dif_neg hs],.bO d.1 d.2⟩
 · simp at h
def Tj : Nat→List AV→List (Nat×AV)
 | _,[]=>[]
 | n,v::l=>(n,v)::Tj (n+1) l
theorem Yd (l:List AV):∀(n t:Nat),lk (Tj n l) t=if n≤t then l[t-n]? else none:=by
 induction l with
 | nil=>intro n t;simp[Tj,qX]
 | cons v l h=>
   intro n t
   simp only[Tj,gT]
   cases hb:Nat.beq n t with
   | true=>
     simp_all
   | false=>
     have d:n≠t:=by intro e;subst e;rw[vy] at hb;simp at hb
     grind
def ae.enter (f n mask:Nat)(c:Code)(args:List AV)(kind:CallKind)(cm:dq):ae:=
 { fn:=f,n:=max args.length n,mask:=mask,loc:=[],qS:=Tj 0 args,todo:=[.code c],defers:=[],mode:=.run,kind:=kind,cm:=cm,round:=none }
theorem nk.enter {P:Program}{g:Gh}{f:FuncId}{fn:Func}{c:Code}{args:List AV}{xs:Array Value}{kind:CallKind}{cm:dq}{mask:Nat}(hf:P.funcs[f]? = some fn)(hb:fn.body=some c)(hx:hJ g args xs) :
   nk P g (ae.enter f fn.ntmps mask c args kind cm) (Frame.enter P f xs kind):=by
 refine⟨rfl,?_,?_,?_,.nil,.run,rfl,trivial⟩
 · have:=hx.1
   simp[Frame.enter,hf,ae.enter];omega
 · intro t v e
   simp only[ae.get,ae.enter] at e
   split at e
   · rw[Yd] at e
     simp only[bW,if_true,Nat.sub_zero] at e
     obtain⟨x,d,h⟩:=hx.get e
     grind[Frame.enter]
   · simp[qX] at e
 · simp only[ae.enter,Frame.enter,hf,aD,hb,vv]
   exact .cons .code .nil
def Fin (P:Program)(fn:Func)(Q:gQ→dq→ag→Prop)(F:ae)(S:ag):Prop:=
 F.defers=[]∧((F.mode=.returning∧∃ v,uI P fn F S=some v∧Q (.ret v) F.cm S)∨∃ l,F.mode=.panicking l∧Q (.wI l) F.cm S)
theorem jZ.Js {m:List Deferred}(h:jZ P g [] m):m=[]:=by
 cases h;rfl
variable {f : FuncId} {c : Code} {args : List AV}
theorem fU.qi {Q:gQ→ag→Prop}(mask:Nat)(hf:P.funcs[f]? = some fn)(hb:fn.body=some c)(h:Reach P (ae.enter f fn.ntmps mask c args .normal .run) S (Fin P fn fun r _ o=>Q r o)):fU P f args S Q:=by
 intro g w xs hx hi cs
 obtain⟨F', o,g', w', e,t,⟨M,C⟩,k,N,D,E,O,p,A,B⟩:=h g w (Frame.enter P f xs .normal) cs cs (nk.enter hf hb hx) (by simp[wR,ae.enter]) hi
 have H:F'.kind=.normal:=D
 have u:t=cs:=by grind[wR]
 subst u
 have i:e.fn=f:=k.fn.trans E
 have n:e.defers=[]:=by have:=k.defers;grind[jZ.Js]
 have y:e.kind=.normal:=k.kind.trans H
 have d:=k.mode
 rcases C with⟨q,v,I,s⟩ | ⟨l,q,s⟩
 · rw[q] at d
   obtain⟨x,J,K⟩:=Dg k p I
   have j:e.mode=.returning:=by generalize e.mode=L at d ⊢;cases d;rfl
   exact⟨.returned x,w', e,⟨.ret v,o,g', s,K,p,A⟩,B,i,j,n,y,fn,by rw[i];exact hf,J⟩
 · rw[q] at d
   obtain⟨m,j,z⟩:∃ m,e.mode=.panicking m∧hZ g' l m:=by generalize e.mode=L at d ⊢;cases d<;>grind
   exact⟨.panicked m,w', e,⟨.wI l,o,g', s,z,p,A⟩,B,i,j,n,fn,by rw[i];exact hf⟩
def ajX (P:Program)(f:FuncId)(args:List AV)(S:ag)(cm:dq)(Q:gQ→dq→ag→Prop):Prop:=
 ∀ (g:Gh) (w:World) (xs:Array Value) (u:FrameMode),hJ g args xs→Inv S g w→mS g cm u →
  CallsD P f xs u w fun e i w' => ∃ r d h g', Q r d h∧N3 g' r e∧mS g' d i∧Inv h g' w' ∧ Ext S g w h g' w'
variable {Q : gQ → dq → ag → Prop}
theorem ajX.qi {cm:dq}(mask:Nat)(hf:P.funcs[f]? = some fn)(hb:fn.body=some c)(h:Reach P (ae.enter f fn.ntmps mask c args .deferred cm) S (Fin P fn Q)):ajX P f args S cm Q:=by
 intro g w xs u hx hi hu c0 cs N
 obtain ⟨F', y,g', w', e,O,⟨R,D⟩,j,p,E,H,T,q,z,A⟩:=h g w (Frame.enter P f xs .deferred) (c0::cs) (c0::cs) (nk.enter hf hb hx)
   (by simp only[wR,ae.enter];grind) hi
 have B:F'.kind=.deferred:=E
 unfold wR at p
 rw[B] at p
 obtain⟨c1,rest,m,C,q2,q3⟩:=p
 simp only[List.cons.injEq] at C
 obtain⟨rfl,rfl⟩:=C
 subst q2
 have k:e.fn=f:=j.fn.trans H
 have n:e.defers=[]:=by have:=j.defers;grind[jZ.Js]
 have o:e.kind=.deferred:=j.kind.trans B
 have d:=j.mode
 rcases D with⟨r,v,I,s⟩ | ⟨l,r,s⟩
 · rw[r] at d
   obtain⟨x,J,K⟩:=Dg j q I
   have i:e.mode=.returning:=by generalize e.mode=L at d ⊢;cases d;rfl
   exact⟨.returned x,m,w', e,⟨.ret v,F'.cm,y,g', s,K,q3,q,z⟩,A,o,i,n,fn,by rw[k];exact hf,J⟩
 · rw[r] at d
   obtain⟨M,i,t⟩:∃ m,e.mode=.panicking m∧hZ g' l m:=by generalize e.mode=L at d ⊢;cases d<;>grind
   exact⟨.panicked M,m,w', e,⟨.wI l,F'.cm,y,g', s,t,q3,q,z⟩,A,o,i,n,fn,by rw[k];exact hf⟩
def Am : dq→dq
 | .panicking ((_,true)::_)=>.returning
 | m=>m
def An (u:dq)(chain:List (AV×Bool)):dq:=
 match u with
 | .panicking vZ=>.panicking (chain++vZ)
 | _=>.panicking chain
variable {l : List (AV × Bool)} {m : List PanicEntry}
theorem hZ.aeb (h:hZ g l m):m.dropWhile (!·.goexit)=[]:=by
 induction h<;>simp_all
variable {a : dq} {b : FrameMode}
theorem Ht (h:mS g a b):mS g (Am a) (settle b):=by
 cases h with
 | run=>exact .run
 | returning=>exact .returning
 | panicking h=>
   cases h with
   | nil=>exact .panicking .nil
   | cons e d=>
     rename_i v x b l m
     cases b with
     | true=>simp only[Am,settle,d.aeb];exact .returning
     | false=>exact .panicking (.cons e d)
theorem hZ.append {l' : List (AV×Bool)}{d:List PanicEntry}(h:hZ g l m)(e:hZ g l' d):hZ g (l++l') (m++d):=by
 induction h with
 | nil=>exact e
 | cons i _ j=>exact .cons i j
theorem Hu (h:mS g a b)(d:hZ g l m):mS g (An a l) (raised b m):=by
 cases h with
 | run=>exact .panicking d
 | returning=>exact .panicking d
 | panicking h=>exact .panicking (d.append h)
def jP (r:gQ)(cm:dq):dq:=
 match r with
 | .ret _=>Am cm
 | .wI l=>An cm l
variable {G : ae → ag → Prop}
theorem Reach.unwind {cap:List AV}{ds:List gS}(Z:F.mode ≠ .run)(hd:F.defers=.call f cap args::ds)(hc:ajX P f (args++cap) S F.mode Q)(h:∀ r cm H,Q r cm H→Reach P { F with defers:=ds,mode:=jP r cm } H G):Reach P F S G:=by
 intro g w fr y cs hf I hi
 have n:=hf.defers
 rw[hd] at n
 generalize J:fr.defers=fd at n
 cases n with | cons E t X ht=>?_
 rename_i ys xs m
 have K:fr.mode ≠ .run:=by
   intro e
   have:=hf.mode
   rw[e] at this
   generalize L:F.mode=u at this
   cases this
   exact Z L
 have h1:=step_defer (P:=P) (cs:=cs) (w:=w) (args:=xs++ys) (f:=f) K J rfl (by grind[invoke,mU])
 obtain⟨e,Y,w', z,⟨r,o,H,g', hq,i,A,M,hx⟩,d,N,B⟩:=hc g w (xs++ys) fr.mode (hJ.append t E) hi hf.mode { fr with defers:=m } cs rfl
 obtain⟨c2,p⟩:∃ c:Frame,c={ { fr with defers:=m } with mode:=Y }:=⟨_,rfl⟩
 rw[←p] at d
 have fin:∀ u,step P (lone z (c2::cs) w')=.next (lone { c2 with mode:=u } cs w')→mS g' (jP r o) u →
    Steps P (lone (Frame.enter P f (xs++ys) .deferred) ({ fr with defers:=m }::cs) w) (lone z (c2::cs) w') →
    ∃ F' q k s C D,G F' q∧nk P k F' C∧wR k F' y D∧F'.kind=F.kind∧F'.fn=F.fn∧F'.round=F.round∧Inv q k s∧Ext S g w q k s∧Steps P (lone fr cs w) (lone C D s):=by
   intro u O R T
   have j:=hf.mono hx.oS
   have U:nk P g' { F with defers:=ds,mode:=jP r o } { c2 with mode:=u }:=by
    subst p
    exact⟨j.fn,j.size,j.get,j.todo,ht.mono hx.oS,R,j.kind,j.round⟩
   obtain⟨F2,S2,g2,w2,V,W,q', p1,p2,p3,p4,p5,p6,p7,p8⟩:=h r o H hq g' w' { c2 with mode:=u } y cs U ((I.mono hx.oS).congr rfl rfl) M
   exact⟨F2,S2,g2,w2,V,W,q', p1,p2,p3,p4,p5,p6,hx.trans p7,Steps.head h1 (Steps.trans T (Steps.head O p8))⟩
 have hu:c2.mode=Y:=by rw[p]
 cases r with
 | ret v=>
   cases e with
   | returned x=>exact fin _ (step_going_returned N B) (by rw[hu];exact Ht A) d
   | panicked c=>exact i.elim
   | outgrown=>exact i.elim
 | wI l=>
   cases e with
   | returned x=>exact i.elim
   | panicked c=>exact fin _ (step_going_panicked B) (by rw[hu];exact Hu A i) d
   | outgrown=>exact i.elim
def uM : dq→Option (AV×dq)
 | .panicking ((v,false)::d)=>some (v,.panicking ((v,true)::d))
 | _=>none
theorem Reach.Us {all:Array Oper}{i:Nat}{rest:List Nat}{k:List bf}{o:Oper}(hm:F.mode=.run)(ht:F.todo=.ops all (i::rest)::k)(H:all[i]? = some o)(hg:tf F all o=some true)(I:F.kind=.deferred)(hr:F.round=none)(ha:gH P F.eval S o.op=some .ae5)(h:Reach P (match uM F.cm with
    | some (v,cm)=>{ F.after o v all rest k with cm:=cm }
    | none=>F.after o (.sc .nilIface) all rest k) S G):Reach P F S G:=by
 intro g w fr y cs hf n hi
 obtain⟨m,J,O⟩:=hf.split ht H
 have R:(execOp fr.eval o).run P w=.ok .recover w:=j9 hi (K6.of hf) ha
 have E:=hf.runs hm
 have q:=hf.JI hr
 have hs:=gL (P:=P) (cs:=cs) (w:=w) E J H (lj hf hg) (.inl q)
 have M:fr.kind=.deferred:=hf.kind.trans I
 have z:=tryRecover_deferred M cs
 unfold wR at n
 rw[I] at n
 obtain⟨c0,e,t,T,q2,q3⟩:=n
 have jW:=fun v=>F.iK o v all rest k
 cases d:uM F.cm with
 | some p=>
   obtain⟨v,cm⟩:=p
   rw[d] at h
   simp only at h
   unfold uM at d
   split at d<;>simp only[bj,nj,reduceCtorEq] at d
   rename_i v' u N
   obtain⟨rfl,rfl⟩:=d
   rw[N] at q3
   cases q3 with | panicking r=>?_
   cases r with | cons K A=>?_
   rename_i x L
   have s:recoverD cs=some (x,{ c0 with mode:=.panicking ({ v:=x,recovered:=true }::L) }::e):=by rw[q2];rfl
   have B:step P (lone fr cs w)=.next (lone (fr.finish x) ({ c0 with mode:=.panicking ({ v:=x,recovered:=true }::L) }::e) w):=by
    refine step_lone_go ?_
    rw[hs];simp[stepG.apply,R,q,z,s]
   have j:=hf.after (v:=v') J O H K
   obtain ⟨F2,U,V,W,C,D,X,Y,Z,p3,p4,p5,p6,p7,p8⟩:=h g w (fr.finish x) y ({ c0 with mode:=.panicking ({ v:=x,recovered:=true }::L) }::e)
    ⟨j.fn,j.size,j.get,j.todo,j.defers,j.mode,j.kind,j.round⟩
    (by unfold wR;rw[show({ F.after o v' all rest k with cm:=dq.panicking ((v', true)::u) }:ae).kind=.deferred from(jW v').1.trans I];exact⟨c0,e,_,T,rfl,.panicking (.cons K A)⟩) hi
   grind[Steps.head]
 | none=>
   rw[d] at h
   simp only at h
   have s:recoverD cs=none:=by
    rw[q2]
    simp only[recoverD]
    generalize F.cm=acm at q3 d
    cases q3 with
    | run=>rfl
    | returning=>rfl
    | panicking r=>
      cases r with
      | nil=>rfl
      | cons K A=>
        rename_i v x b l m
        cases b with
        | false=>simp[uM] at d
        | true=>rfl
   have B:step P (lone fr cs w)=.next (lone (fr.finish .nilIface) cs w):=by
    refine step_lone_go ?_
    rw[hs];simp[stepG.apply,R,q,z,s]
   have j:=hf.after (v:=.sc .nilIface) (x:=.nilIface) J O H (.sc rfl)
   obtain ⟨F2,U,V,W,C,D,X,Y,Z,p3,p4,p5,p6,p7,p8⟩:=h g w (fr.finish .nilIface) y cs j
    (by unfold wR;rw[(jW (.sc .nilIface)).1.trans I,(jW (.sc .nilIface)).2.2.2];exact⟨c0,e,t,T,q2,q3⟩) hi
   exact⟨F2,U,V,W,C,D,X,Y,Z,p3.trans (jW _).1,p4.trans (jW _).2.1,p5.trans (jW _).2.2.1,p6,p7,Steps.head B p8⟩
end
end Go.Eng
namespace Go.Eng
noncomputable section
def Gh.cut (g:Gh)(n:Nat):Gh:={ ro:=g.ro,ph:=fun id=>if id<n then g.ph id else none }
variable {g : Gh} {n id : Nat} {l : Loc}
theorem Gh.j5 (h:(g.cut n).ph id=some l):id<n∧g.ph id=some l:=by
 grind[Gh.cut]
theorem Gh.Oh (a:id<n)(h:g.ph id=some l):(g.cut n).ph id=some l:=by simp[Gh.cut,a,h]
theorem Gh.Fq (g:Gh)(n:Nat):Gh.le (g.cut n) g:=⟨fun _ _ e=>e,fun _ _ e=>(Gh.j5 e).2⟩
theorem Gh.JJ {g' : Gh}(h:Gh.le g g'){m:Nat}(c:n≤m):Gh.le (g.cut n) (g'.cut m):=
 ⟨h.ro,fun _ _ e=>let ⟨a,b⟩:=Gh.j5 e;Gh.Oh (mG a c) (h.ph _ _ b)⟩
def nV (P:Program)(all:Array Oper)(o:Oper)(get:Nat→Option AV)(E:ag)(v:AV)(E' : ag):Prop:=
 ∀ (g:Gh) (w:World) (fr:Frame) (cs:List Frame) (i:Nat) (rest:List Nat) (m:List Item),fr.mode=.run→fr.todo=.inRegion all (i::rest)::m→all[i]? = some o →
  (∀ t,t∈o.looksAt all→∀ u,get t=some u→∃ x,fr.tmps[t]? = some x∧VR g u x)→Inv E g w →
  ∃ w' g' x,Steps P (lone fr cs w) (lone (fr.finish x) cs w')∧VR g' v x∧Inv E' g' w' ∧ Ext E g w E' g' w'
section
variable (ops : Array Oper) (F : ae) (S : ag) (pm : Nat → Nat → Bool) (E E' : Nat → ag) (v : Nat → AV) (ch : Nat → Nat → Option (Option aL))
def nn : Nat→Nat
 | 0=>S.nx
 | i+1=>(E' i).nx
def uJ (i:Nat):Option Tmp:=match ops[i]? with
 | some o=>o.dst
 | none=>none
def sv (X:Nat→Bool):Nat→Nat→Option (AV×Nat)
 | 0,t=>match F.get t with
   | some u=>some (u,S.nx)
   | none=>none
 | m+1,t=>if X m=true∧uJ ops m=some t∧t<F.n then some (v m,nn S E' (m+1)) else sv X m t
def ov (X:Nat→Bool):Nat→Nat→Option (aL×Nat)
 | 0,id=>match S.get id with
   | some o=>some (o,S.nx)
   | none=>none
 | m+1,id=>if X m=true then match ch m id with
   | some (some o)=>some (o,nn S E' (m+1))
   | some none=>none
   | none=>ov X m id else ov X m id
structure DP (P : Program) (i0 n : Nat) : Prop where
 ae7 : ∀ i, i < n → (E i).nx = nn S E' i
 mono : ∀ i, i < n → (E i).nx ≤ (E' i).nx
 lim : ∀ i, i < n → S.lim ≤ (E i).lim
 aky : ∀ i, i < n → ∀ id o, (E i).get id = some o → ∃ st, ov S E' ch (pm i) i id = some (o, st)
 Oi : ∀ i, i < n → ∀ j, j < i → pm i j = false → ∀ id, ch j id ≠ none → (E i).get id = none
 Ut : ∀ i, i < n → ∀ j, j < n → i < j → pm j i = false → ∀ id, ch j id ≠ none → id < (E j).nx → (E i).get id = none
 asK : ∀ i, i < n → ∀ id o, ch i id = some (some o) → (E' i).get id = some o
 asL : ∀ i, i < n → ∀ id o, (E i).get id = some o → (E i).lim ≤ id → ch i id ≠ none
 afu : ∀ i, i < n → ∀ id, ch i id ≠ none → (E i).lim ≤ id ∧ id < (E' i).nx
 akz : ∀ i, i < n → ∀ id, ch i id ≠ none → (E i).get id ≠ none ∨ (E i).nx ≤ id
 op : ∀ i, i0 ≤ i → i < n → ∃ o, ops[i]? = some o ∧ nV P ops o (fun t => match sv ops F S E' v (fun _ => true) i t with
  | some (u, _) => some u
  | none => none) (E i) (v i) (E' i)
structure DJ (X : Nat → Bool) (n : Nat) (g0 : Gh) (w0 : World) (fr0 : Frame) (g : Gh) (w : World) (fr : Frame) : Prop where
 wh : ∀ t u st, sv ops F S E' v X n t = some (u, st) → ∃ x, fr.tmps[t]? = some x ∧ VR (g.cut st) u x
 ob : ∀ id o st, ov S E' ch X n id = some (o, st) → ∃ l, (g.cut st).ph id = some l ∧ g.ro l.cZ = none ∧ wH (g.cut st) l w.heap[l.cZ]? o
 inj : ∀ id id' o o' st st' l l', ov S E' ch X n id = some (o, st) → ov S E' ch X n id' = some (o', st') → g.ph id = some l → g.ph id' = some l' → l.cZ = l'.cZ → id = id'
 ro : ∀ b c, g.ro b = some c → ∃ t fz, w.heap[b]? = some (.cells c t fz)
 afv : ∀ id l, g.ph id = some l → id < S.nx ∨ ∃ j, j < n ∧ X j = true ∧ nn S E' j ≤ id ∧ id < nn S E' (j + 1)
 size : w0.heap.size ≤ w.heap.size
 os : w.os = w0.os
 tape : La w w0
 output : w.output = w0.output
 jW : ∀ b, b < w0.heap.size → (∀ id o l, S.get id = some o → S.lim ≤ id → g0.ph id = some l → l.cZ ≠ b) → w.heap[b]? = w0.heap[b]?
 own : ∀ id o st l, ov S E' ch X n id = some (o, st) → S.lim ≤ id → g.ph id = some l → l.cZ < w0.heap.size → ∃ id0 o0 l0, S.get id0 = some o0 ∧ S.lim ≤ id0 ∧ g0.ph id0 = some l0 ∧ l0.cZ = l.cZ
 oS : Gh.le g0 g
 vZ : ∀ id, id < S.nx → g.ph id = g0.ph id
 CU : ∀ b c, g.ro b = some c → b < w0.heap.size → g0.ro b = some c ∨ ∃ id0 o0 l0, S.get id0 = some o0 ∧ S.lim ≤ id0 ∧ g0.ph id0 = some l0 ∧ l0.cZ = b
 fz : ∀ a, a.block < w0.heap.size → w.frozen? a = w0.frozen? a
 Lw : fr.tmps.size = F.n
 frame : fr = { fr0 with tmps := fr.tmps, todo := fr.todo }
end
section
variable {ops : Array Oper} {F : ae} {S : ag} {pm : Nat → Nat → Bool} {E E' : Nat → ag} {v : Nat → AV} {ch : Nat → Nat → Option (Option aL)}
def Ac (X:Nat→Bool)(i:Nat):Nat→Bool:=fun j=>if j=i then true else X j
variable {P : Program} {i0 i j : Nat}
theorem m8 (h:DP ops F S pm E E' v ch P i0 n)(b:i≤j)(c:j≤n):nn S E' i≤nn S E' j:=by
 induction j with
 | zero=>grind
 | succ j a=>
   by_cases e:i=j+1
   · grind
   · have h1:=a (by omega) (by omega)
     have h2:=h.mono j (by omega)
     rw[h.ae7 j (by omega)] at h2
     exact mF h1 h2
variable {X : Nat → Bool}
theorem U8 (h:DP ops F S pm E E' v ch P i0 n):∀ {m:Nat},m≤n→∀ {t u st},sv ops F S E' v X m t=some (u,st)→st≤nn S E' m:=by
 intro m
 induction m with
 | zero=>
   intro _ t u st e
   simp only[sv] at e
   split at e<;>simp only[bj,nj,reduceCtorEq] at e
   rw[←e.2];exact bG _
 | succ m a=>
   intro b t u st e
   simp only[sv] at e
   split at e
   · grind
   · exact mF (a (by omega) e) (m8 h (by omega) b)
theorem LL (h:DP ops F S pm E E' v ch P i0 n):∀ {m:Nat},m≤n→∀ {id o st},ov S E' ch X m id=some (o,st)→st≤nn S E' m:=by
 intro m
 induction m with
 | zero=>
   intro _ t u st e
   simp only[ov] at e
   split at e<;>simp only[bj,nj,reduceCtorEq] at e
   rw[←e.2];exact bG _
 | succ m b=>
   intro a t u st e
   have up:∀ {x},x≤nn S E' m→x≤nn S E' (m+1):=fun hx=>mF hx (m8 h (by omega) a)
   simp only[ov] at e
   grind
theorem Zo (h:DP ops F S pm E E' v ch P i0 n)(b:∀ id o,S.get id=some o→id<S.nx):∀ {m:Nat},m≤n→∀ {id o st},ov S E' ch X m id=some (o,st)→id<st:=by
 intro m
 induction m with
 | zero=>
   grind[ov]
 | succ m c=>
   intro d id o st e
   simp only[ov] at e
   split at e
   · split at e
     · rename_i o' a
       simp only[bj,nj] at e
       rw[←e.2];exact(h.afu m (by omega) id (by rw[a];simp)).2
     all_goals grind
   · grind
theorem Ye (h:DP ops F S pm E E' v ch P i0 n):∀ {m:Nat},m≤n→id<S.nx→S.get id=none→∀ {X:Nat→Bool},ov S E' ch X m id=none:=by
 intro m
 induction m with
 | zero=>grind[ov]
 | succ m b=>
   intro d bE e X
   simp only[ov]
   have hi:=@b (by omega) bE e
   split
   · cases c:ch m id with
     | none=>exact hi
     | some r=>
       exfalso
       rcases h.akz m (by omega) id (by rw[c];simp) with q | q
       · cases a:(E m).get id with
         | none=>exact q a
         | some o=>
           obtain⟨st,f⟩:=h.aky m (by omega) id o a
           grind
       · rw[h.ae7 m (by omega)] at q
         have k:=m8 h (bW m) (by omega)
         have:nn S E' 0=S.nx:=rfl
         omega
   · exact hi
variable {Y : Nat → Bool} {t : Nat}
theorem FC : ∀ {m:Nat},(∀ j,j<m→uJ ops j=some t→X j=Y j)→sv ops F S E' v X m t=sv ops F S E' v Y m t:=by
 intro m
 induction m with
 | zero=>intro _;rfl
 | succ m a=>
   intro h
   simp only[sv]
   grind
theorem AG : ∀ {m:Nat},(∀ j,j<m→ch j id≠none→X j=Y j)→ov S E' ch X m id=ov S E' ch Y m id:=by
 intro m
 induction m with
 | zero=>intro _;rfl
 | succ m a=>
   intro h
   simp only[ov]
   grind
theorem TX : ∀ {m:Nat},i≤m→(∀ j,i≤j→j<m→X j=true→uJ ops j≠some t)→sv ops F S E' v X m t=sv ops F S E' v X i t:=by
 intro m
 induction m with
 | zero=>grind
 | succ m a=>
   intro hi h
   by_cases e:i=m+1
   · subst e;rfl
   · simp only[sv]
     grind
theorem Lx : ∀ {m:Nat},i≤m→(∀ j,i≤j→j<m→X j=true→ch j id=none)→ov S E' ch X m id=ov S E' ch X i id:=by
 intro m
 induction m<;>grind[ov]
theorem aec (a:¬ t<F.n):∀ {m:Nat},sv ops F S E' v X m t=sv ops F S E' v Y m t:=by
 intro m
 induction m with
 | zero=>rfl
 | succ m b=>simp only[sv,a,and_false,if_false];exact b
theorem pw (X:Nat→Bool)(i:Nat):Ac X i i=true:=by simp[Ac]
theorem m9 (X:Nat→Bool)(h:j≠i):Ac X i j=X j:=by simp[Ac,h]
variable {g0 : Gh} {w0 w : World} {fr0 fr : Frame} {cs : List Frame} {m : List Item}
theorem DJ.step (h:DP ops F S pm E E' v ch P i0 n)(hn:n≤ops.size)(hap:∀ i j oi oj,i<n→j<i→pm i j=false→ops[i]? = some oi→ops[j]? = some oj→oi.apart ops oj=true)(hS:∀ id o,S.get id=some o→id<S.nx)(z:DJ ops F S E' v ch X n g0 w0 fr0 g w fr)(hi0:i0≤i)(hi:i<n)(hX:X i=false)(hcl:∀ j,X j=true→j<n∧∀ k,pm j k=true→X k=true)(hrd:∀ j,pm i j=true→X j=true){rest:List Nat}(hmode:fr0.mode=.run)(ht:fr.todo=.inRegion ops (i::rest)::m) :
   ∃ fr' w' g', Steps P (lone fr cs w) (lone fr' cs w')∧fr'.todo=.inRegion ops rest::m∧DJ ops F S E' v ch (Ac X i) n g0 w0 fr0 g' w' fr' := by
 obtain⟨o,ho,hop⟩:=h.op i hi0 hi
 have hin:nn S E' i≤nn S E' (i+1):=m8 h (by omega) (by omega)
 have hX' : ∀ j,X j=true→j≠i∧pm j i=false:=by
   intro j a
   refine⟨fun e=>(by subst e;rw[hX] at a;simp at a),?_⟩
   cases e:pm j i with
   | false=>rfl
   | true=>rw[(hcl j a).2 i e] at hX;simp at hX
 have mdE:∀ j,j<n→∃ oj,ops[j]? = some oj:=fun j z=>⟨_,Ab (mG z hn)⟩
 have hslot:∀ t,t∈o.looksAt ops→sv ops F S E' v X n t=sv ops F S E' v (fun _=>true) i t:=by
   intro t hlk
   rw[TX (i:=i) (by omega)]
   · refine FC fun j hji hd=>?_
     cases e:pm i j with
     | true=>exact hrd j e
     | false=>
       obtain⟨oj,N⟩:=mdE j (by omega)
       have hd' : oj.dst=some t:=by simpa [uJ,N] using hd
       exact absurd hlk ((Oper.apart_spec (hap i j o oj hi hji e ho N)).2.2 t hd')
   · intro j hij C J hd
     have G:=hX' j J
     have D:i<j:=by omega
     obtain⟨oj,N⟩:=mdE j C
     have hd' : oj.dst=some t:=by simpa [uJ,N] using hd
     exact absurd hlk ((Oper.apart_spec (hap j i oj o C D G.2 N ho)).1 t hd')
 have W:∀ id ob,(E i).get id=some ob→∃ st,ov S E' ch X n id=some (ob,st)∧st≤nn S E' i:=by
   intro id ob e
   obtain⟨st,M⟩:=h.aky i hi id ob e
   have hst:=LL h (by omega:i≤n) M
   have hidst:=Zo h hS (by omega:i≤n) M
   refine⟨st,?_,hst⟩
   rw[←M,Lx (i:=i) (by omega)]
   · refine AG fun j hji I=>?_
     cases e' : pm i j with
     | true=>exact hrd j e'
     | false=>exact absurd (h.Oi i hi j hji e' id I) (by rw[e];simp)
   · intro j hij C J
     have G:=hX' j J
     have D:i<j:=by omega
     cases I:ch j id with
     | none=>rfl
     | some r=>
       exfalso
       have DA:id<(E j).nx:=by
         rw[h.ae7 j C]
         have:=m8 h (show i≤j by omega) (by omega)
         omega
       have:=h.Ut i hi j C D G.2 id (by rw[I];simp) DA
       rw[this] at e;simp at e
 have hnxi:=h.ae7 i hi
 have hinv:Inv (E i) (g.cut (nn S E' i)) w:=by
   refine⟨z.ro,?_,?_,?_⟩
   · intro id ob e
     obtain⟨st,M,e2⟩:=W id ob e
     obtain⟨l,a,b,c⟩:=z.ob id ob st M
     have hm:=Gh.JJ (Gh.le_refl g) e2
     exact⟨l,hm.ph _ _ a,b,c.mono hm⟩
   · intro id id' o1 o2 l l' e e' p p' hb
     obtain⟨st,M,_⟩:=W id o1 e
     obtain⟨st', e1', _⟩:=W id' o2 e'
     exact z.inj id id' o1 o2 st st' l l' M e1' (Gh.j5 p).2 (Gh.j5 p').2 hb
   · intro id bE
     rw[hnxi] at bE
     simp[Gh.cut,show ¬ id<nn S E' i by omega]
 have hmd:fr.mode=.run:=by rw[z.frame];exact hmode
 obtain ⟨w', g1,x,hs,hv,O,hx⟩:=hop (g.cut (nn S E' i)) w fr cs i rest m hmd ht ho (by
   intro t hlk u e
   simp only[←hslot t hlk] at e
   split at e<;>simp only[bj,reduceCtorEq] at e
   rename_i u' st e'
   subst e
   obtain⟨x,M,e2⟩:=z.wh t _ st e'
   refine⟨x,M,e2.mono (Gh.JJ (Gh.le_refl g) ?_)⟩
   rw[hslot t hlk] at e'
   exact U8 h (by omega) e') hinv
 have K:∀ {a b},a≤b→b≤n→nn S E' a≤nn S E' b:=fun hab hb=>m8 h hab hb
 have hnx0:S.nx≤nn S E' i:=by have:=K (show 0≤i by omega) (by omega);exact this
 obtain⟨gn,hgn⟩:∃ k:Gh,k={ ro:=g1.ro,ph:=fun id=>if nn S E' i≤id∧id<nn S E' (i+1) then g1.ph id else g.ph id }:=⟨_,rfl⟩
 have H:gn.ro=g1.ro:=by rw[hgn]
 have hgin:∀ {id},nn S E' i≤id→id<nn S E' (i+1)→gn.ph id=g1.ph id:=by intro id a b;rw[hgn];simp[a,b]
 have L:∀ {id},¬ (nn S E' i≤id∧id<nn S E' (i+1))→gn.ph id=g.ph id:=by intro id a;rw[hgn];simp[a]
 have hle:Gh.le g gn:=by
   refine⟨fun b c e=>by rw[H];exact hx.oS.ro b c e,fun id l e=>?_⟩
   rw[L]
   · exact e
   · rintro⟨a,b⟩
     rcases z.afv id l e with q | ⟨j,q1,q2,q3,q4⟩
     · omega
     · have G:=(hX' j q2).1
       rcases jO j i with k | k
       · have:=K (show j+1≤i by omega) (by omega);omega
       · have:=K (show i+1≤j by omega) (by omega);omega
 have R:Gh.le g1 (gn.cut (nn S E' (i+1))):=by
   refine⟨fun b c e=>by show gn.ro b=some c;rw[H];exact e,fun id l e=>?_⟩
   have D:id<nn S E' (i+1):=O.Qc e
   refine Gh.Oh D ?_
   by_cases hb:nn S E' i≤id
   · rw[hgin hb D];exact e
   · rw[L (by omega)]
     have:=hx.vZ id (by rw[hnxi];omega)
     rw[this] at e
     exact(Gh.j5 e).2
 have hwr:∀ s o0 B,(E i).get s=some o0→(E i).lim≤s→(g.cut (nn S E' i)).ph s=some B→ch i s≠none∧g.ph s=some B∧S.lim≤s∧∃ st,ov S E' ch X n s=some (o0,st):=
   fun s o0 B M e2 e3=>⟨h.asL i hi s o0 M e2,(Gh.j5 e3).2,mF (h.lim i hi) e2,let ⟨st,a,_⟩:=W s o0 M;⟨st,a⟩⟩
 have hov_ch:∀ {id r},ch i id=some r→ov S E' ch (Ac X i) n id=match r with
     | some ob=>some (ob,nn S E' (i+1))
     | none=>none:=by
   intro id r hr
   rw[Lx (i:=i+1) (by omega)]
   · simp only[ov,pw,if_true,hr]
     cases r<;>rfl
   · intro j hij C J
     rw[m9 X (by omega)] at J
     have G:=hX' j J
     cases I:ch j id with
     | none=>rfl
     | some r' =>
       exfalso
       rcases h.akz j C id (by rw[I];simp) with q | q
       · exact q (h.Oi j C i (by omega) G.2 id (by rw[hr];simp))
       · have h1:=(h.afu i hi id (by rw[hr];simp)).2
         have h2:=K (show i+1≤j by omega) (by omega)
         rw[h.ae7 j C] at q
         have h3:nn S E' (i+1)=(E' i).nx:=rfl
         omega
 have A:∀ {id},ch i id=none→ov S E' ch (Ac X i) n id=ov S E' ch X n id:=by
   intro id I
   refine AG fun j _ hcj=>?_
   by_cases e:j=i
   · subst e;exact absurd I hcj
   · exact m9 X e
 have hun:∀ {id ob st},ch i id=none→ov S E' ch X n id=some (ob,st)→∃ l,(g.cut st).ph id=some l∧l.cZ<w.heap.size∧wH (g.cut st) l w.heap[l.cZ]? ob∧g.ro l.cZ=none ∧
     (∀ s o0 B,(E i).get s=some o0→(E i).lim≤s→(g.cut (nn S E' i)).ph s=some B→B.cZ≠l.cZ):=by
   intro id ob st I e
   obtain⟨l,a,b,c⟩:=z.ob id ob st e
   refine⟨l,a,c.lt,c,b,fun s o0 B M e2 e3 eb=>?_⟩
   obtain⟨q1,q2,q3,T,q4⟩:=hwr s o0 B M e2 e3
   have:=z.inj s id o0 ob T st B l q4 e q2 (Gh.j5 a).2 eb
   subst this;exact q1 I
 have Q:∀ {id ob st},ch i id≠none→ov S E' ch (Ac X i) n id=some (ob,st)→st=nn S E' (i+1)∧(E' i).get id=some ob∧(E i).lim≤id:=by
   intro id ob st I e
   cases hr:ch i id with
   | none=>exact absurd hr I
   | some r=>
     rw[hov_ch hr] at e
     cases r with
     | none=>simp at e
     | some ob' =>
       simp only[bj,nj] at e
       obtain⟨rfl,rfl⟩:=e
       exact⟨rfl,h.asK i hi id _ hr,(h.afu i hi id I).1⟩
 have Z:=yc ht ho x
 have hgst:∀ {st},Gh.le (g.cut st) (gn.cut st):=Gh.JJ hle (bG _)
 refine⟨fr.finish x,w', gn,hs,by rw[Z],?_⟩
 have hown:∀ id o st l,ov S E' ch (Ac X i) n id=some (o,st)→S.lim≤id→gn.ph id=some l→l.cZ<w0.heap.size→∃ s o0 B,S.get s=some o0∧S.lim≤s∧g0.ph s=some B∧B.cZ=l.cZ:=by
   intro id ob st l e hlim hl D
   by_cases I:ch i id=none
   · rw[A I] at e
     obtain⟨l', a,_⟩:=z.ob id ob st e
     have hl' := hle.ph _ _ (Gh.j5 a).2
     rw[hl] at hl';simp only[bj] at hl';subst hl'
     exact z.own id ob st l e hlim (Gh.j5 a).2 D
   · obtain⟨_,q2,q3⟩:=Q I e
     obtain⟨l1,r1,_,_⟩:=O.ob id ob q2
     have U:=(Gh.j5 (R.ph _ _ r1)).2
     rw[hl] at U;simp only[bj] at U;subst U
     obtain⟨s,o0,B,f1,f2,f3,f4⟩:=hx.own id ob l q2 q3 r1 (mG D z.size)
     obtain⟨_,p2,p3,T,p4⟩:=hwr s o0 B f1 f2 f3
     obtain⟨id1,o1,l1,z1,z2,z3,z4⟩:=z.own s o0 T B p4 p3 p2 (f4▸D)
     exact⟨id1,o1,l1,z1,z2,z3,z4.trans f4⟩
 refine⟨?_,?_,?_,?_,?_,mF z.size hx.size,hx.os.trans z.os,La.trans hx.tape z.tape,hx.output.trans z.output,?_,hown,Gh.le_trans z.oS hle,?_,?_,?_,?_,?_⟩
 · intro t u st e
   rw[Z]
   by_cases hd:uJ ops i=some t∧t<F.n
   · obtain⟨hd,htn⟩:=hd
     have hdo:o.dst=some t:=by simpa [uJ,ho] using hd
     rw[TX (i:=i+1) (by omega)] at e
     · simp only[sv,pw,hd,htn,and_self,if_true,bj,nj] at e
       obtain⟨rfl,rfl⟩:=e
       exact⟨x,by simp[hdo,z.Lw,htn],hv.mono R⟩
     · intro j hij C J hdj
       rw[m9 X (by omega)] at J
       have G:=hX' j J
       obtain⟨oj,N⟩:=mdE j C
       have hd' : oj.dst=some t:=by simpa [uJ,N] using hdj
       exact(Oper.apart_spec (hap j i oj o C (by omega) G.2 N ho)).2.1 t hd' hdo
   · have hsame:sv ops F S E' v (Ac X i) n t=sv ops F S E' v X n t:=by
       by_cases htn:t<F.n
       · refine FC fun j _ hdj=>?_
         by_cases e:j=i
         · subst e;exact absurd ⟨hdj,htn⟩ hd
         · exact m9 X e
       · exact aec htn
     rw[hsame] at e
     obtain⟨y,y1,y2⟩:=z.wh t u st e
     refine⟨y,?_,y2.mono hgst⟩
     cases hdo:o.dst with
     | none=>exact y1
     | some d=>
       simp only[sj]
       by_cases hdt:d=t
       · subst hdt
         exfalso
         have D:=(BG.1 y1).1
         exact hd ⟨by simp[uJ,ho,hdo],by rw[←z.Lw];exact D⟩
       · rw[if_neg hdt];exact y1
 · intro id ob st e
   by_cases I:ch i id=none
   · rw[A I] at e
     obtain⟨l,a,b,c,d,f⟩:=hun I e
     refine⟨l,hgst.ph _ _ a,?_,?_⟩
     · rw[H]
       cases hr:g1.ro l.cZ with
       | none=>rfl
       | some cc=>
         exfalso
         rcases hx.CU l.cZ cc hr b with q | ⟨s,o0,B,f1,f2,f3,f4⟩
         · have q' : g.ro l.cZ=some cc:=q
           rw[d] at q';simp at q'
         · exact f s o0 B f1 f2 f3 f4
     · rw[hx.jW l.cZ b f];exact c.mono hgst
   · obtain⟨rfl,q2,q3⟩:=Q I e
     obtain⟨l1,r1,r2,r3⟩:=O.ob id ob q2
     exact⟨l1,R.ph _ _ r1,by rw[H];exact r2,r3.mono R⟩
 · have key:∀ a b oa ob sa sb la lb,ch i a≠none→ch i b=none→ov S E' ch (Ac X i) n a=some (oa,sa)→ov S E' ch (Ac X i) n b=some (ob,sb)→gn.ph a=some la→gn.ph b=some lb→la.cZ=lb.cZ→False:=by
     intro a b oa ob sa sb la lb ca cb ea eb pa pb V
     rw[A cb] at eb
     obtain⟨l,z1,z2,z3,z4,z5⟩:=hun cb eb
     have:=(Gh.j5 (hgst.ph _ _ z1)).2
     rw[pb] at this;simp only[bj] at this;subst this
     obtain⟨_,q2,q3⟩:=Q ca ea
     obtain⟨l1,r1,_,_⟩:=O.ob a oa q2
     have U:=(Gh.j5 (R.ph _ _ r1)).2
     rw[pa] at U;simp only[bj] at U;subst U
     obtain⟨s,o0,B,f1,f2,f3,f4⟩:=hx.own a oa la q2 q3 r1 (V▸z2)
     exact z5 s o0 B f1 f2 f3 (f4.trans V)
   intro a b oa ob sa sb la lb ea eb pa pb V
   by_cases ca:ch i a=none<;>by_cases cb:ch i b=none
   · rw[A ca] at ea;rw[A cb] at eb
     obtain⟨l,z1,_⟩:=z.ob a oa sa ea
     obtain⟨l', z1', _⟩:=z.ob b ob sb eb
     have h1:=hle.ph _ _ (Gh.j5 z1).2
     have h2:=hle.ph _ _ (Gh.j5 z1').2
     rw[pa] at h1;rw[pb] at h2;simp only[bj] at h1 h2;subst h1;subst h2
     exact z.inj a b oa ob sa sb la lb ea eb (Gh.j5 z1).2 (Gh.j5 z1').2 V
   · exact(key b a ob oa sb sa lb la cb ca eb ea pb pa V.symm).elim
   · exact(key a b oa ob sa sb la lb ca cb ea eb pa pb V).elim
   · obtain⟨_,q2,_⟩:=Q ca ea
     obtain⟨_,q2', _⟩:=Q cb eb
     obtain⟨l1,r1,_,_⟩:=O.ob a oa q2
     obtain⟨l2,r2,_,_⟩:=O.ob b ob q2'
     have h1:=(Gh.j5 (R.ph _ _ r1)).2
     have h2:=(Gh.j5 (R.ph _ _ r2)).2
     rw[pa] at h1;rw[pb] at h2;simp only[bj] at h1 h2;subst h1;subst h2
     exact O.inj a b oa ob la lb q2 q2' r1 r2 V
 · intro b c e;exact O.ro b c (by rw[←H];exact e)
 · intro id l e
   by_cases hb:nn S E' i≤id∧id<nn S E' (i+1)
   · exact .inr ⟨i,hi,pw X i,hb.1,hb.2⟩
   · rw[L hb] at e
     rcases z.afv id l e with q | ⟨j,q1,q2,q3,q4⟩
     · exact .inl q
     · exact .inr ⟨j,q1,by rw[m9 X (hX' j q2).1];exact q2,q3,q4⟩
 · intro b hb G
   rw[hx.jW b (mG hb z.size) ?_,z.jW b hb G]
   intro s o0 B M e2 e3 e4
   obtain⟨_,p2,p3,T,p4⟩:=hwr s o0 B M e2 e3
   obtain⟨id1,o1,l1,z1,z2,z3,z4⟩:=z.own s o0 T B p4 p3 p2 (e4▸hb)
   exact G id1 o1 l1 z1 z2 z3 (z4.trans e4)
 · intro id bE
   rw[L (by omega)];exact z.vZ id bE
 · intro b c e hb
   rw[H] at e
   rcases hx.CU b c e (mG hb z.size) with q | ⟨s,o0,B,M,e2,e3,e4⟩
   · exact z.CU b c q hb
   · obtain⟨_,p2,p3,T,p4⟩:=hwr s o0 B M e2 e3
     obtain⟨id1,o1,l1,z1,z2,z3,z4⟩:=z.own s o0 T B p4 p3 p2 (e4▸hb)
     exact .inr ⟨id1,o1,l1,z1,z2,z3,z4.trans e4⟩
 · exact fun a ha=>(hx.fz a (mG ha z.size)).trans (z.fz a ha)
 · rw[Z]
   cases o.dst<;>simp[z.Lw]
 · have:=z.frame
   rw[Z]
   rw[this]
theorem Yf : ∀(l:List Bool) (i:Nat),l[i]? = some false→(l.set i true).count false+1=l.count false:=by
 grind
theorem DJ.congr (a:∀ j,j<n→X j=Y j)(h:DJ ops F S E' v ch X n g0 w0 fr0 g w fr):DJ ops F S E' v ch Y n g0 w0 fr0 g w fr:=by
 have h1:∀ t,sv ops F S E' v Y n t=sv ops F S E' v X n t:=fun t=>(FC fun j c _=>a j c).symm
 have h2:∀ id,ov S E' ch Y n id=ov S E' ch X n id:=fun id=>(AG fun j c _=>a j c).symm
 refine ⟨fun t u st e=>h.wh t u st (h1 t▸e),fun id o st e=>h.ob id o st (h2 id▸e),fun id b o o' st d l l' e f=>h.inj id b o o' st d l l' (h2 id▸e) (h2 b▸f),h.ro,fun id l e=>?_,h.size,h.os,h.tape,h.output,h.jW,
  fun id o st l e=>h.own id o st l (h2 id▸e),h.oS,h.vZ,h.CU,h.fz,h.Lw,h.frame⟩
 rcases h.afv id l e with q | ⟨j,k,q2,q3⟩
 all_goals grind
structure Ag (ops : Array Oper) (pm : Nat → Nat → Bool) : Prop where
 low : ∀ i o e, ops[i]? = some o → e ∈ o.after → Region.binds .any e = true → e.on < i
 up : ∀ i j, pm i j = true → ∃ o e, ops[i]? = some o ∧ e ∈ o.after ∧ Region.binds .any e = true ∧ (e.on = j ∨ pm e.on j = true)
variable {aH : Array Bool}
theorem U9 (c:Ag ops pm)(hs:aH.size=ops.size):∀(i:Nat),aH.toList[i]? = some false→∃ j,j∈Region.ready .any ops aH:=by
 intro i
 induction i using Nat.strongRecOn with
 | _ i d=>
   intro hf
   have p:aH[i]? = some false:=by simpa using hf
   have a:i<ops.size:=by grind
   have b:ops[i]? = some ops[i]:=Ab a
   by_cases h:∀ e∈ops[i].after,Region.binds .any e=true→aH.getD e.on false=true
   · exact⟨i,mem_ready.2 ⟨by simp_all,_,b,h⟩⟩
   · have:∃ e,e∈ops[i].after∧Region.binds .any e=true∧¬ aH.getD e.on false=true:=by
      grind
     obtain⟨e,f,k,r⟩:=this
     have o:=c.low i _ e b f k
     have q:e.on<aH.size:=by omega
     refine d e.on o ?_
     simp_all
theorem Ag.lt (a:Ag ops pm):∀ i k,pm i k=true→k<i:=by
 intro i
 induction i using Nat.strongRecOn with
 | _ i c=>
   intro k h
   obtain⟨o,e,b,a2,a3,a4⟩:=a.up i k h
   have:=a.low i o e b a2 a3
   grind
theorem Va (s:Ag ops pm)(y:∀ i,n≤i→i<ops.size→∀ j,j<i→pm i j=true):∀(k fuel t i:Nat) (aH:Array Bool),aH.size=ops.size→n≤i→(∀ j,aH.getD j false=decide (j<i))→i+k=ops.size→k≤fuel →
   Region.linearise.go .any ops fuel t aH []=List.range' i k:=by
 intro k
 induction k with
 | zero=>
   intro fuel t i aH hs z a A _
   have d:Region.ready .any ops aH=[]:=by
     cases G:Region.ready .any ops aH with
     | nil=>rfl
     | cons x xs=>
       obtain⟨h1,o,h2,_⟩:=mem_ready.1 (show x∈Region.ready .any ops aH by rw[G];exact jU ..)
       have hx:x<ops.size:=(BG.1 h2).1
       have a:=a x
       simp only[po,Ab (show x<aH.size by omega),vv] at a h1
       rw[a] at h1
       simp at h1
       omega
   cases fuel with
   | zero=>simp[Region.linearise.go]
   | succ f=>
     simp only[Region.linearise.go]
     change (match (Region.ready .any ops aH)[t%(Region.ready .any ops aH).length]? with
       | some i=>Region.linearise.go .any ops f (t/(Region.ready .any ops aH).length) (aH.setIfInBounds i true) [i]
       | none=>[].reverse)=_
     rw[d]
     simp
 | succ k H=>
   intro fuel t i aH hs z a A hf
   obtain⟨f,rfl⟩:∃ f,fuel=f+1:=⟨fuel-1,by omega⟩
   have hi:i<ops.size:=by omega
   have C:ops[i]? = some ops[i]:=Ab hi
   have h:i∈Region.ready .any ops aH:=by
     refine mem_ready.2 ⟨?_,_,C,fun e h1 h2=>?_⟩
     · have:=a i
       simp only[po,Ab (show i<aH.size by omega),vv] at this ⊢
       rw[this];simp
     · rw[a];simpa using s.low i _ e C h1 h2
   have p:∀ x,x∈Region.ready .any ops aH→x=i:=by
     intro x hx
     obtain⟨h1,o,h2,h3⟩:=mem_ready.1 hx
     have B:x<ops.size:=(BG.1 h2).1
     have b:=a x
     simp only[po,Ab (show x<aH.size by omega),vv] at b h1
     rw[b] at h1
     simp at h1
     rcases jO i x with q | q
     · exfalso
       obtain⟨o', e,u,a2,a3,a4⟩:=s.up x i (y x (by omega) B i q)
       rw[h2] at u;simp only[bj] at u;subst u
       have c:=h3 e a2 a3
       rw[a] at c
       simp at c
       rcases a4 with rfl | a4
       · omega
       · have:=s.lt _ _ a4;omega
     · omega
   simp only[Region.linearise.go]
   change (match (Region.ready .any ops aH)[t%(Region.ready .any ops aH).length]? with
     | some i=>Region.linearise.go .any ops f (t/(Region.ready .any ops aH).length) (aH.setIfInBounds i true) [i]
     | none=>[].reverse)=_
   have r:0<(Region.ready .any ops aH).length:=List.length_pos_of_mem h
   have D:=qB (Nat.mod_lt t r)
   have:=p _ (vj D)
   rw[D,this]
   simp only
   rw[linearise_go_acc,List.reverse_singleton,Fs,List.range'_succ]
   congr 1
   refine H f _ (i+1) _ (by simpa using hs) (by omega) (fun j=>?_) (by omega) (by omega)
   by_cases e:j=i
   · subst e;simp[show j<aH.size by omega]
   · rw[getD_set_ne false (Ne.symm e),a]
     simp;omega
theorem Vb : ∀(l:List Bool) (q:Nat),(∀ j,q≤j→l[j]? ≠ some true)→l.length-q≤l.count false:=by
 intro l
 induction l with
 | nil=>intro q _;simp
 | cons b l c=>
   intro q a
   cases q with
   | zero=>
     have:=c 0 fun j _=>by simpa using a (j+1) (bW _)
     have hb:b=false:=by
      have:=a 0 (bG _)
      simpa using this
     grind
   | succ q=>
     have:=c q fun j d=>by simpa using a (j+1) (by omega)
     grind
variable {fuel : Nat}
theorem Vc (b:Ag ops pm)(d:n≤ops.size)(a:∀ i,n≤i→i<ops.size→∀ j,j<i→pm i j=true)(hs:aH.size=ops.size)(c:∀ j,aH.getD j false=decide (j<n))(f:aH.toList.count false≤fuel) :
  Region.linearise.go .any ops fuel t aH []=List.range' n (ops.size-n):=by
 refine Va b a (ops.size-n) fuel t n aH hs (bG _) c (by omega) ?_
 have:=Vb aH.toList n fun j h=>by
  intro e
  have h1:aH.getD j false=true:=by
   simp_all
  grind
 grind
theorem aed (s:Ag ops pm)(G:n<ops.size)(y:∀ i,n<i→i<ops.size→pm i n=true)(hs:aH.size=ops.size)(c:∀ j,aH.getD j false=decide (j<n))(I:aH.toList.count false≤fuel) :
   ∃ b H a,Region.linearise.go .any ops fuel t aH []=n::Region.linearise.go .any ops b H a []∧a.size=ops.size∧(∀ j,a.getD j false=decide (j<n+1))∧a.toList.count false≤b:=by
 have z:aH.toList[n]? = some false:=by
   have:=c n
   simp_all
 have D:0<aH.toList.count false:=List.count_pos_iff.2 (vj z)
 obtain⟨f,rfl⟩:∃ f,fuel=f+1:=⟨fuel-1,by omega⟩
 have B:ops[n]? = some ops[n]:=Ab G
 have k:n∈Region.ready .any ops aH:=by
   refine mem_ready.2 ⟨?_,_,B,fun e h1 h2=>?_⟩
   · have:=c n
     simp only[po,Ab (show n<aH.size by omega),vv] at this ⊢
     rw[this];simp
   · rw[c];simpa using s.low n _ e B h1 h2
 have p:∀ x,x∈Region.ready .any ops aH→x=n:=by
   intro x hx
   obtain⟨h1,o,h2,h3⟩:=mem_ready.1 hx
   have A:x<ops.size:=(BG.1 h2).1
   have d:=c x
   simp only[po,Ab (show x<aH.size by omega),vv] at d h1
   rw[d] at h1
   simp at h1
   rcases jO n x with q | q
   · exfalso
     obtain⟨o', e,u,a2,a3,a4⟩:=s.up x n (y x q A)
     rw[h2] at u;simp only[bj] at u;subst u
     have h:=h3 e a2 a3
     rw[c] at h
     simp at h
     rcases a4 with rfl | a4
     · omega
     · have:=s.lt _ _ a4;omega
   · omega
 have r:0<(Region.ready .any ops aH).length:=List.length_pos_of_mem k
 have C:=qB (Nat.mod_lt t r)
 have:=p _ (vj C)
 refine⟨f,t/(Region.ready .any ops aH).length,aH.setIfInBounds n true,?_,by simpa using hs,fun j=>?_,?_⟩
 · simp only[Region.linearise.go]
   change (match (Region.ready .any ops aH)[t%(Region.ready .any ops aH).length]? with
     | some i=>Region.linearise.go .any ops f (t/(Region.ready .any ops aH).length) (aH.setIfInBounds i true) [i]
     | none=>[].reverse)=_
   rw[C,this]
   simp only
   rw[linearise_go_acc,List.reverse_singleton,Fs]
 · by_cases e:j=n
   · subst e;simp[show j<aH.size by omega]
   · rw[getD_set_ne false (Ne.symm e),c]
     simp;omega
 all_goals grind
theorem DJ.run (h:DP ops F S pm E E' v ch P i0 n)(hn:n≤ops.size)(he:Ag ops pm)(Q:∀ i,n≤i→i<ops.size→∀ j,j<n→pm i j=true)(R:∀ i j oi oj,i<n→j<i→pm i j=false→ops[i]? = some oi→ops[j]? = some oj→oi.apart ops oj=true)(hS:∀ id o,S.get id=some o→id<S.nx)(G:fr0.mode=.run) :
   ∀ (fuel t:Nat) (aH:Array Bool) (g:Gh) (w:World) (fr:Frame),aH.size=ops.size→aH.toList.count false≤fuel →
     (∀ j,aH.getD j false=true→∀ k,pm j k=true→aH.getD k false=true)→(∀ j,aH.getD j false=true→j<n)→(∀ j,j<i0→aH.getD j false=true) →
     DJ ops F S E' v ch (fun j=>aH.getD j false) n g0 w0 fr0 g w fr→fr.todo=.inRegion ops (Region.linearise.go .any ops fuel t aH [])::m →
     ∃ s w' g' u t' c,Steps P (lone fr cs w) (lone s cs w')∧s.todo=.inRegion ops (Region.linearise.go .any ops u t' c [])::m∧c.size=ops.size∧(∀ j,c.getD j false=decide (j<n))∧c.toList.count false≤u∧DJ ops F S E' v ch (fun _=>true) n g0 w0 fr0 g' w' s:=by
 intro fuel
 induction fuel with
 | zero=>
   intro t aH g w fr y I z f DA H x
   have d:∀ j,j<ops.size→aH.getD j false=true:=by
     intro j B
     have A:aH[j]? = some aH[j]:=Ab (by omega)
     cases hb:aH[j] with
     | true=>simp[po,A,hb]
     | false=>
       have:false∈aH.toList:=by rw[←hb];simp
       have:=List.count_pos_iff.2 this
       omega
   have hns:n=ops.size:=by
     rcases jO n ops.size with q | q
     · have:=f n (d n q);omega
     · omega
   refine⟨fr,w,g,0,t,aH,Steps.refl _ _,x,y,fun j=>?_,I,H.congr fun j B=>d j (by omega)⟩
   by_cases q:j<n
   · rw[d j (by omega)];simp[q]
   · cases e:aH.getD j false with
     | true=>exact absurd (f j e) q
     | false=>simp[q]
 | succ fuel ih=>
   intro t aH g w fr y I z f DA H x
   by_cases d:∀ j,j<n→aH.getD j false=true
   · have hl:∀ j,aH.getD j false=decide (j<n):=by
       intro j
       by_cases q:j<n
       · rw[d j q];simp[q]
       · cases e:aH.getD j false with
         | true=>exact absurd (f j e) q
         | false=>simp[q]
     exact⟨fr,w,g,fuel+1,t,aH,Steps.refl _ _,x,y,hl,I,H.congr fun j B=>d j B⟩
   have T:∃ j,j<n∧aH.getD j false=false:=by
     refine Classical.byContradiction fun I=>d fun j H=>?_
     cases e:aH.getD j false with
     | true=>rfl
     | false=>exact absurd ⟨j,H,e⟩ I
   obtain⟨J,U,L⟩:=T
   simp only[Region.linearise.go] at x
   change fr.todo=.inRegion ops (match (Region.ready .any ops aH)[t%(Region.ready .any ops aH).length]? with
     | some i=>Region.linearise.go .any ops fuel (t/(Region.ready .any ops aH).length) (aH.setIfInBounds i true) [i]
     | none=>[].reverse)::m at x
   cases hi:(Region.ready .any ops aH)[t%(Region.ready .any ops aH).length]? with
   | none=>
     exfalso
     have A:aH[J]? = some aH[J]:=Ab (by omega)
     obtain ⟨r,hr⟩:=U9 (aH:=aH) he (by omega) J (by
       rw[zn,A]
       simpa [po,A] using L)
     have f:=Nat.mod_lt t (List.length_pos_of_mem hr)
     rw[qB f] at hi
     simp at hi
   | some i=>
     rw[hi] at x
     simp only at x
     rw[linearise_go_acc,List.reverse_singleton,Fs] at x
     have N:=vj hi
     obtain⟨V,o,ho,W⟩:=mem_ready.1 N
     have Z:i<ops.size:=(BG.1 ho).1
     have A:aH[i]? = some aH[i]:=Ab (by omega)
     have C:aH[i]=false:=by simpa [po,A] using V
     have D:∀ j,pm i j=true→aH.getD j false=true:=by
       intro j hp
       obtain⟨o', e,O,a2,a3,a4⟩:=he.up i j hp
       rw[ho] at O;simp only[bj] at O;subst O
       have:=W e a2 a3
       rcases a4 with rfl | a4
       · exact this
       · exact z e.on this j a4
     have M:i<n:=by
       rcases jO i n with q | q
       · exact q
       · have:=D J (Q i q Z J U)
         rw[L] at this;simp at this
     obtain ⟨s,w', g', s1,s2,s3⟩:=H.step (cs:=cs) h hn R hS (by
       rcases jO i i0 with q | q
       · have:=DA i q
         simp[po,A,C] at this
       · exact q) M (by simp[po,A,C]) (fun j a=>⟨f j a,z j a⟩) D G x
     have p:∀ j,(aH.setIfInBounds i true).getD j false=Ac (fun j=>aH.getD j false) i j:=by
       intro j
       by_cases e:j=i
       · subst e;simp[Ac,show j<aH.size by omega]
       · rw[m9 _ e];exact getD_set_ne false (Ne.symm e)
     obtain ⟨fr2,w2,g2,f2,t2,l2,r1,r2,r3⟩:=ih (t/(Region.ready .any ops aH).length) (aH.setIfInBounds i true) g' w' s (by simpa using y) (by
         have:=Yf aH.toList i (by simp[show i<aH.size by omega,C])
         simp only[Array.toList_setIfInBounds];omega) (by
         intro j a k b
         rw[p] at a ⊢
         by_cases e:j=i
         · subst e
           by_cases K:k=j
           · subst K;exact pw _ _
           · rw[m9 _ K];exact D k b
         · rw[m9 _ e] at a
           by_cases K:k=i
           · subst K;exact pw _ _
           · rw[m9 _ K];exact z j a k b) (by
         intro j a
         rw[p] at a
         by_cases e:j=i
         · subst e;exact M
         · rw[m9 _ e] at a;exact f j a) (by
         intro j a
         rw[p]
         by_cases e:j=i
         · subst e;exact pw _ _
         · rw[m9 _ e];exact DA j a) (s3.congr fun j _=>(p j).symm) s2
     exact⟨fr2,w2,g2,f2,t2,l2,Steps.trans s1 r1,r2,r3⟩
def lo (F:ae):Nat:=match F.todo with
 | .ops _ [_,i0,_,_]::_=>i0
 | _=>0
def Tk (ops:Array Oper)(F:ae)(k:List bf):Prop:=(∃ id,F.todo=.code (.region id ops true)::k)∨∃ i0 wm sm,F.todo=.ops ops [ops.size,i0,wm,sm]::k
theorem Tk.begin {k:List bf}(f:P.follows .mixedOrders=true)(p:F.mode=.run)(e:Tk ops F k)(hf:nk P g F fr) :
   ∃ m b fuel t aH,Steps P (lone fr cs w) (lone { fr with todo:=.inRegion ops (Region.linearise.go .any ops fuel t aH [])::m } cs { w with drawn:=w.drawn+b })∧nA g k m∧aH.size=ops.size∧(∀ j,aH.getD j false=decide (j<lo F))∧aH.toList.count false≤fuel:=by
 have h:=hf.runs p
 have a:=hf.todo
 rcases e with⟨id,e⟩ | ⟨i0,wm,sm,e⟩
 · rw[e] at a
   generalize c:fr.todo=td at a
   cases a with | cons h1 h2=>?_
   cases h1
   rename_i m
   have d:step P (lone fr cs w)=.next (lone { fr with todo:=.inRegion ops (Region.schedule (P.follows .mixedOrders) ops (w.tape w.drawn (.order fr.fn id)))::m } cs { w with drawn:=w.drawn+1 }):=
     step_lone_go (by simp[stepG,stepG.exec,h,c,choose,Sem.run,Question.forced,Question.cut])
   rw[f] at d
   simp only[Region.schedule,Bool.true_or,if_true,Region.linearise] at d
   generalize w.tape w.drawn (.order fr.fn id)=t at d
   refine⟨m,1,ops.size,t,Array.replicate ops.size false,.one d,h2,by simp,fun j=>?_,by simp⟩
   have:lo F=0:=by unfold lo;rw[e]
   rw[this]
   simp only[po,Array.getElem?_replicate]
   split<;>simp
 · rw[e] at a
   generalize c:fr.todo=td at a
   cases a with | cons h1 h2=>?_
   rename_i m
   cases h1 with | ops q=>?_
   cases q with
   | cons hi _=>grind
   | rest _ _ _ hs s r=>
     rename_i fuel t aH
     have o:fr={ fr with todo:=.inRegion ops (Region.linearise.go .any ops fuel t aH [])::m }:=by rw[←c]
     have u:w={ w with drawn:=w.drawn+0 }:=rfl
     refine⟨m,0,fuel,t,aH,?_,h2,hs,fun j=>?_,r⟩
     · rw[←o];exact Steps.refl _ _
     all_goals grind[lo]
structure Lo (ops : Array Oper) (F : ae) (S : ag) (E' : Nat → ag) (v : Nat → AV) (ch : Nat → Nat → Option (Option aL)) (i0 : Nat) : Prop where
 nx : ∀ j, j < i0 → (E' j).nx = S.nx
 ch : ∀ j, j < i0 → ∀ id, ch j id = none
 v : ∀ j, j < i0 → ∀ t, uJ ops j = some t → v j = (F.get t).getD .top
theorem DJ.init (DA:Lo ops F S E' v ch i0)(hf:nk P g F fr)(hi:Inv S g w)(td:List Item)(b:Nat)(B:i0≤n) :
   DJ ops F S E' v ch (fun j=>decide (j<i0)) n g w fr g { w with drawn:=w.drawn+b } { fr with todo:=td }:=by
 have r:∀ m t u st,m≤i0→sv ops F S E' v (fun j=>decide (j<i0)) m t=some (u,st)→st=S.nx∧(F.get t=some u∨u=.top∧t<F.n):=by
   intro m
   induction m with
   | zero=>
     intro t u st _ e
     simp only[sv] at e
     grind
   | succ m C=>
     intro t u st L e
     simp only[sv] at e
     split at e
     · rename_i q
       simp only[bj,nj] at e
       obtain⟨rfl,rfl⟩:=e
       refine⟨DA.nx m (by omega),?_⟩
       rw[DA.v m (by omega) t q.2.1]
       cases M:F.get t with
       | none=>exact .inr ⟨rfl,q.2.2⟩
       | some u=>exact .inl rfl
     · exact C t u st (by omega) e
 have y:∀ t u st,sv ops F S E' v (fun j=>decide (j<i0)) n t=some (u,st)→st=S.nx∧(F.get t=some u∨u=.top∧t<F.n):=by
   intro t u st e
   rw[TX (i:=i0) B (fun j h1 _ h3=>by simp at h3;omega)] at e
   exact r i0 t u st (bG _) e
 have d:∀ id,ov S E' ch (fun j=>decide (j<i0)) n id=ov S E' ch (fun j=>decide (j<i0)) 0 id:=by
   intro id
   exact Lx (i:=0) (bW _) (fun j _ _ e=>DA.ch j (by simpa using e) id)
 have f:∀ {id l},g.ph id=some l→(g.cut S.nx).ph id=some l:=fun e=>Gh.Oh (hi.Qc e) e
 have k:Gh.le g (g.cut S.nx):=⟨fun _ _ e=>e,fun _ _ e=>f e⟩
 refine⟨?_,?_,?_,hi.ro,fun id l e=>.inl (hi.Qc e),bG _,rfl,⟨rfl,Nat.le_add_right _ _⟩,rfl,fun _ _ _=>rfl,?_,Gh.le_refl _,fun _ _=>rfl,fun _ _ e _=>.inl e,fun _ _=>rfl,hf.size,rfl⟩
 · intro t u st e
   obtain⟨rfl,q | ⟨rfl,q⟩⟩:=y t u st e
   · obtain⟨x,a,b⟩:=hf.get t _ q
     exact⟨x,a,b.mono k⟩
   · exact⟨_,Ab (by rw[hf.size];exact q),.top⟩
 · intro id o st e
   rw[d] at e
   simp only[ov] at e
   split at e<;>simp only[bj,nj,reduceCtorEq] at e
   rename_i o' D
   obtain⟨rfl,rfl⟩:=e
   obtain⟨l,a,b,c⟩:=hi.ob id _ D
   exact⟨l,f a,b,c.mono k⟩
 · intro id z o o' st J l l' e s p G hb
   rw[d] at e s
   simp only[ov] at e s
   split at e<;>simp only[bj,nj,reduceCtorEq] at e
   rename_i o1 h
   split at s<;>simp only[bj,nj,reduceCtorEq] at s
   rename_i o2 A
   exact hi.inj id z o1 o2 l l' h A p G hb
 · intro id o st l e H I K
   rw[d] at e
   simp only[ov] at e
   split at e<;>simp only[bj,nj,reduceCtorEq] at e
   rename_i o1 h
   exact⟨id,o1,l,h,H,I,rfl⟩
theorem Reach.drawn {P:Program}{n:Nat}{F' : ae}{N:ag}{G:ae→ag→Prop}{k:List bf}{rl:List Nat}(I:P.follows .mixedOrders=true)(hm:F.mode=.run)(ht:Tk ops F k)(DA:Lo ops F S E' v ch (lo F))(R:lo F≤n)
   (h:DP ops F S pm E E' v ch P (lo F) n) (hn:n≤ops.size) (he:Ag ops pm) (T:∀ i,n≤i→i<ops.size→∀ j,j<n→pm i j=true)
   (U:∀ i j oi oj,i<n→j<i→pm i j=false→ops[i]? = some oi→ops[j]? = some oj→oi.apart ops oj=true)
   (V:∀(fuel t:Nat) (aH:Array Bool),aH.size=ops.size→(∀ j,aH.getD j false=decide (j<n))→aH.toList.count false≤fuel→w6 ops rl (Region.linearise.go .any ops fuel t aH []))
   (O:F'.n=F.n∧F'.todo=.ops ops rl::k∧F'.defers=F.defers∧F'.mode=F.mode) (hk:F'.kind=F.kind) (A:F'.fn=F.fn) (B:F'.round=F.round) (W:F'.cm=F.cm)
   (J:∀ t u,F'.get t=some u→∃ st,sv ops F S E' v (fun _=>true) n t=some (u,st))
   (C : N.nx=nn S E' n) (K:N.lim=S.lim) (d:∀ id,N.get id=match ov S E' ch (fun _=>true) n id with
     | some (o,_)=>some o
     | none=>none) (hr:Reach P F' N G):Reach P F S G:=by
 refine hr.DG hk A B W fun g w fr cs hf hi=>?_
 have L:=hf.runs hm
 obtain⟨m,b,fuel,t,aH,Z,h2,q1,q2,q3⟩:=Tk.begin (cs:=cs) I hm ht hf (w:=w)
 obtain ⟨z,w', g', f2,t2,l2,s1,s2,r1,r2,r3,s3⟩:=DJ.run (cs:=cs) (m:=m) h hn he T U (fun id o e=>hi.lO e) L fuel t aH g { w with drawn:=w.drawn+b }
   { fr with todo:=.inRegion ops (Region.linearise.go .any ops fuel t aH [])::m } q1 q3 (by
     intro j a k e
     rw[q2] at a ⊢
     have:=he.lt _ _ e
     simp at a ⊢;omega) (by grind) (by grind) ((DJ.init DA hf hi _ b R).congr fun j _=>(q2 j).symm) rfl
 have f:z={ fr with tmps:=z.tmps,todo:=.inRegion ops (Region.linearise.go .any ops f2 t2 l2 [])::m }:=by
   have:=s3.frame
   rw[s2] at this
   exact this
 have hnn:∀ {X:Nat→Bool} {t u st},sv ops F S E' v X n t=some (u,st)→Gh.le (g'.cut st) g' := fun _=>Gh.Fq _ _
 refine⟨z,w', g', ?_,?_,?_,Steps.trans Z s1⟩
 · have D:=s3.oS
   have s:=hf.mono D
   refine⟨?_,?_,?_,?_,?_,?_,?_,?_⟩
   · rw[A,f];exact s.fn
   · rw[O.1];exact s3.Lw
   · intro t u e
     obtain⟨st,Q⟩:=J t u e
     obtain⟨x,a,b⟩:=s3.wh t u st Q
     exact⟨x,a,b.mono (Gh.Fq _ _)⟩
   · rw[O.2.1,s2];exact .cons (.ops (V f2 t2 l2 r1 r2 r3)) (h2.mono D)
   · rw[O.2.2.1,f];exact s.defers
   · rw[O.2.2.2,f];exact s.mode
   · rw[hk,f];exact s.kind
   · rw[B,f];exact s.round
 · refine⟨s3.ro,?_,?_,?_⟩
   · intro id o e
     rw[d] at e
     split at e<;>simp only[bj,reduceCtorEq] at e
     rename_i o' st y
     subst e
     obtain⟨l,a,b,c⟩:=s3.ob id _ st y
     exact⟨l,(Gh.j5 a).2,b,c.mono (Gh.Fq _ _)⟩
   · intro id id' o o' l l' e y p p' hb
     rw[d] at e y
     split at e<;>simp only[bj,reduceCtorEq] at e
     rename_i o1 st1 Q
     split at y<;>simp only[bj,reduceCtorEq] at y
     rename_i o2 M e2
     exact s3.inj id id' o1 o2 st1 M l l' Q e2 p p' hb
   · intro id bE
     cases e:g'.ph id with
     | none=>rfl
     | some l=>
       exfalso
       rw[C] at bE
       rcases s3.afv id l e with q | ⟨j,q1,_,_,q3⟩
       · have:=m8 h (bW n) (bG _)
         have h0:nn S E' 0=S.nx:=rfl
         omega
       · have:=m8 h (show j+1≤n by omega) (bG _)
         omega
 · refine⟨s3.size,s3.os,s3.tape,s3.output,s3.jW,?_,s3.oS,?_,K,?_,s3.vZ,s3.CU,fun id bE e=>by rw[d,Ye h (bG _) bE e],s3.fz⟩
   · intro id o l e hl hp hlt
     rw[d] at e
     split at e<;>simp only[bj,reduceCtorEq] at e
     rename_i o' st y
     exact s3.own id _ st l y hl hp hlt
   · rw[C];exact m8 h (bW n) (bG _)
   · intro id bE
     rw[d,Lx (i:=0) (bW _)]
     · simp only[ov]
       cases S.get id<;>rfl
     · intro j _ H _
       cases hc:ch j id with
       | none=>rfl
       | some r=>
         have:=(h.afu j H id (by rw[hc];simp)).1
         have:=h.lim j H
         omega
end
end
end Go.Eng
namespace Go.Eng
noncomputable section
def sy (m:Nat):List (Nat×AV)→List (Nat×AV)
 | []=>[]
 | (t,v)::r=>match tb m t with
   | true=>(t,v)::sy m r
   | false=>sy m r
theorem My {m:Nat}:∀ {l:List (Nat×AV)} {t:Nat} {v:AV},lk (sy m l) t=some v→tb m t=true∧lk l t=some v:=by
 intro l
 induction l with
 | nil=>grind[sy,qX]
 | cons a r c=>
   obtain⟨k,u⟩:=a
   intro t v h
   simp only[sy] at h
   cases b:tb m k with
   | true=>
     rw[b] at h
     simp only[gT] at h ⊢
     cases hb:Nat.beq k t<;>simp_all
   | false=>
     rw[b] at h
     have:=c h
     refine⟨this.1,?_⟩
     simp only[gT]
     cases hb:Nat.beq k t<;>simp_all
def ae.Qs (F:ae)(d l:Nat)(k:List bf):ae:={ F with todo:=.zb l::k,defers:=.mQ d::F.defers }
def ae.qE (F:ae)(d l:Nat)(k:List bf):gQ→ae
 | .ret _=>{ F with todo:=.nX l::k,defers:=.mQ d::F.defers }
 | .wI c=>{ F.Qs d l k with mode:=.panicking c }
def ae.Zp (F:ae)(S:ag)(params:Array Tmp)(assign body:Code):ag:=
 (S.add (.df true)).add (.lp .ready none F.fn F.n F.mask (sy F.mask F.qS) params.toList assign body)
variable {P : Program} {F : ae} {S : ag} {G : ae → ag → Prop} {k : List bf} {assign body : Code}
theorem Reach.rangeFunc {f:Operand}{params:Array Tmp}{fn:FuncId}{first cap:List AV}{Q:gQ→ag→Prop}(hm:F.mode=.run)(ht:F.todo=.code (.rangeFunc f params assign body)::k)(hr:F.round=none)(hf0:F.eval f=some (.fn (.func fn) first cap))(hb:nm P fn=true)(h1:Ok (S.nx+1))(h2:S.lim≤S.nx)(hc:fU P fn (first++[.rV (S.nx+1)]++cap) (F.Zp S params assign body) Q)(h:∀ r S', Q r S' → Reach P (F.qE S.nx (S.nx+1) k r) S' G):Reach P F S G:=by
 intro g w fr O cs hf hcs hi
 have z:=hf.runs hm
 have hro:=hf.JI hr
 have C:=hf.todo
 rw[ht] at C
 generalize Z:fr.todo=td at C
 cases C with | cons q1 q2=>?_
 cases q1
 rename_i m
 have R:=K6.of hf f _ hf0
 generalize hfv:fr.eval f=fv at R
 cases R with | fn hx hy hxr hyr=>?_
 rename_i xs ys
 obtain⟨i1,e1⟩:=hi.alloc (w' := w.alloc (.deferred (some []))) (by omega) (o:=.df true) (ob:=.deferred (some [])) (l:=⟨w.heap.size,0,0,0⟩) rfl rfl rfl rfl ⟨rfl,bG _⟩ rfl h2
 have D:=hf.mono e1.oS
 obtain ⟨i2,e2⟩:=i1.alloc (w' := (w.alloc (.deferred (some []))).alloc (.loop { state:=.ready,pending:=none,fn:=fr.fn,tmps:=fr.tmps,params,assign,body,defers:=w.heap.size })) (by show Ok (S.nx+1);omega)
   (o:=.lp .ready none F.fn F.n F.mask (sy F.mask F.qS) params.toList assign body) (ob:=.loop { state:=.ready,pending:=none,fn:=fr.fn,tmps:=fr.tmps,params,assign,body,defers:=w.heap.size })
   (l := ⟨w.heap.size+1,0,0,0⟩) (by simp) ⟨_,rfl,rfl,rfl,D.fn,D.size,fun t v e=>by
     obtain⟨a,b⟩:=My e
     exact D.get t v (by simp only[ae.get,a];exact b),by simp,rfl,rfl⟩ rfl rfl ⟨rfl,bG _⟩ rfl (by show S.lim≤S.nx+1;omega)
 have he:=e1.trans e2
 generalize T:(g.add S.nx ⟨w.heap.size,0,0,0⟩).add (S.add (.df true)).nx ⟨w.heap.size+1,0,0,0⟩=N at *
 generalize hw2:(w.alloc (.deferred (some []))).alloc (.loop { state:=.ready,pending:=none,fn:=fr.fn,tmps:=fr.tmps,params,assign,body,defers:=w.heap.size })=M at *
 have hl:N.ph (S.nx+1)=some ⟨w.heap.size+1,0,0,0⟩:=by rw[←T];exact Gh.add_same _ _ _
 have hd:N.ph S.nx=some ⟨w.heap.size,0,0,0⟩:=by rw[←T,Gh.fq _ _ (by show S.nx≠S.nx+1;omega)];exact Gh.add_same _ _ _
 have hf2:=hf.mono he.oS
 obtain⟨tR,j⟩:∃ x:Frame,x={ fr with todo:=.inRangeFunc (w.heap.size+1)::m,defers:={ target:=.collected w.heap.size,args := #[] }::fr.defers }:=⟨_,rfl⟩
 have hev' : tR.eval f=.func (.func fn) xs ys:=by rw[←hfv,j];cases f<;>rfl
 have hev2:tR.eval (.const (.func (.yield (w.heap.size+1)) #[] #[]))=.func (.yield (w.heap.size+1)) #[] #[]:=by rw[j];rfl
 have J:(do let d←resolve tR.eval { callee:=.value f,args := #[.const (.func (.yield (w.heap.size+1)) #[] #[])],argTypes := #[] } 0;invoke d.target d.args:Sem Next).run P M =
     .ok (.enter fn (xs ++ #[.func (.yield (w.heap.size+1)) #[] #[]]++ys)) M:=by
   simp only[resolve,Sem.run_bind,Sem.run_pure,Result.andThen_ok,invoke,hev', Deferred.ofValue,List.map_toArray,dF,ud,hev2,mU hb]
 have hent:(Instr.enterLoop fr.fn fr.tmps params assign body fr.roundOf).run P w=.ok (w.heap.size+1,[{ target:=.collected w.heap.size,args := #[] }]) M:=by
   rw[hro,←hw2]
   simp[Instr.enterLoop]
 have hst:step P (lone fr cs w)=.next (lone (Frame.enter P fn (xs ++ #[.func (.yield (w.heap.size+1)) #[] #[]]++ys) .normal) (tR::cs) M):=by
   refine step_lone_go ?_
   have hft:tR.todo=.inRangeFunc (w.heap.size+1)::m:=by rw[j]
   have K:({ fn:=fr.fn,tmps:=fr.tmps,todo:=.inRangeFunc (w.heap.size+1)::m,defers:={ target:=.collected w.heap.size,args := #[] }::fr.defers,mode:=.run,kind:=fr.kind,roundOf:=fr.roundOf }:Frame)=tR:=by rw[j,z]
   simp only[stepG,stepG.exec,z,Z,Sem.runT_eq,hent,GStep.bare_after,Fs,K]
   simp[stepG.apply,J,hft]
 have L:hJ N (first++[.rV (S.nx+1)]++cap) (xs ++ #[.func (.yield (w.heap.size+1)) #[] #[]]++ys):=
   hJ.append (hJ.append ⟨hx,fun a b c d e=>(hxr a b c d e).mono he.oS⟩ (hJ.cons (xs:=[]) (.rV hl) (hJ.nil N))) ⟨hy,fun a b c d e=>(hyr a b c d e).mono he.oS⟩
 obtain⟨e,w', U,⟨r,S', g', hq,q,hi', E⟩,s,_,u⟩:=hc N M _ L i2 (tR::cs)
 have y:=he.trans E
 have go:∀ A,step P (lone U (tR::cs) w')=.next (lone A cs w')→nk P g' (F.qE S.nx (S.nx+1) k r) A→Steps P (lone (Frame.enter P fn (xs ++ #[.func (.yield (w.heap.size+1)) #[] #[]]++ys) .normal) (tR::cs) M) (lone U (tR::cs) w') →
     ∃ F' H B I V W,G F' H∧nk P B F' V∧wR B F' O W∧F'.kind=F.kind∧F'.fn=F.fn∧F'.round=F.round∧Inv H B I∧Ext S g w H B I∧Steps P (lone fr cs w) (lone V W I):=by
   intro A hst2 hfr hs1
   have p:(F.qE S.nx (S.nx+1) k r).kind=F.kind∧(F.qE S.nx (S.nx+1) k r).fn=F.fn∧(F.qE S.nx (S.nx+1) k r).round=F.round∧(F.qE S.nx (S.nx+1) k r).cm=F.cm:=by
     cases r<;>exact⟨rfl,rfl,rfl,rfl⟩
   obtain⟨F2,S2,g3,w3,fr3,cs2,q', p1,p2,p3,p4,p5,p6,p7,p8⟩:=h r S' hq g' w' A O cs hfr ((hcs.mono y.oS).congr p.1 p.2.2.2) hi'
   exact⟨F2,S2,g3,w3,fr3,cs2,q', p1,p2,p3.trans p.1,p4.trans p.2.1,p5.trans p.2.2.1,p6,y.trans p7,Steps.head hst (Steps.trans hs1 (Steps.head hst2 p8))⟩
 have i:=hf.mono y.oS
 have X:=E.oS.ph _ _ hl
 have Y:=E.oS.ph _ _ hd
 cases r with
 | ret v=>
   cases e with
   | returned x=>
     refine go _ (step_leave_returned u) ?_ s
     rw[j]
     exact⟨i.fn,i.size,i.get,.cons (.nX X) (q2.mono y.oS),.mQ Y i.defers,i.mode,i.kind,i.round⟩
   | panicked c=>exact q.elim
   | outgrown=>exact q.elim
 | wI l=>
   cases e with
   | returned x=>exact q.elim
   | panicked c=>
     refine go _ (step_leave_panicked u) ?_ s
     have:tR.raise c={ tR with mode:=.panicking c }:=by simp[Frame.raise,j,z]
     rw[this,j]
     exact⟨i.fn,i.size,i.get,.cons (.zb X) (q2.mono y.oS),.mQ Y i.defers,.panicking q,i.kind,i.round⟩
   | outgrown=>exact q.elim
def Oj (pend:Option Code)(k:List bf):List bf:=
 match pend with
 | some c=>.code c::k
 | none=>k
variable {id : Nat} {st : LoopState} {pend : Option Code} {fn n mask : Nat} {env : List (Nat × AV)} {params : List Tmp}
theorem Reach.nX (s:F.mode=.run)(t:F.todo=.nX id::k)(q:S.get id=some (.lp st pend fn n mask env params assign body))(o:(st == .busy)=false)(u:S.lim≤id)(h:Reach P { F with todo:=Oj pend k,loc:=[] } (S.set id (.lp .exhausted pend fn n mask env params assign body)) G):Reach P F S G:=by
 refine h.DG rfl rfl rfl rfl fun g w fr cs hf hi=>?_
 have d:=hf.runs s
 have a:=hf.todo
 rw[t] at a
 generalize e:fr.todo=td at a
 cases a with | cons v q2=>?_
 cases v
 rename_i m l b
 obtain⟨l', i,a2,a3⟩:=hi.ob _ _ q
 rw[b] at i;simp only[bj] at i;subst i
 obtain⟨lo,j,x,r,y,z,A,B,C,D⟩:=a3
 have I:=(BG.1 j).1
 have f:(Instr.endLoop l.cZ).run P w=.ok pend { w with heap:=w.heap.setIfInBounds l.cZ (.loop { lo with state:=.exhausted }) }:=by
  simp only[Instr.endLoop,Instr.getLoop,Sem.run_bind,getObj,Sem.run,j,Result.andThen_ok,Sem.run_pure,x,o]
  simp[setObj,Sem.run,j,r]
 obtain ⟨E,H⟩:=hi.jr (w' := { w with heap:=w.heap.setIfInBounds l.cZ (.loop { lo with state:=.exhausted }) }) (ob' := .loop { lo with state:=.exhausted }) (o' := .lp .exhausted pend fn n mask env params assign body) q u b (by simp)
  (by grind) (by grind) rfl ⟨rfl,bG _⟩ rfl
  ⟨_,rfl,rfl,r,y,z,A,B,C,D⟩
 have p:nA g (Oj pend k) ((pend.map Item.code).toList++m):=by
  cases pend with
  | none=>exact q2
  | some c=>exact .cons .code q2
 refine⟨{ fr with todo:=(pend.map Item.code).toList++m },_,g,hf.Z9 p,E,H,.one (step_lone_go ?_)⟩
 simp[stepG,stepG.exec,d,e,Sem.runT_eq,f]
theorem Reach.mQ {P:Program}{F:ae}{S:ag}{G:ae→ag→Prop}{id:Nat}{ds:List gS}(q:F.mode ≠ .run)(r:F.defers=.mQ id::ds)(p:S.get id=some (.df true))(s:S.lim≤id)
  (h:Reach P { F with defers:=ds } (S.set id (.df false)) G):Reach P F S G:=by
 refine h.DG rfl rfl rfl rfl fun g w fr cs hf hi=>?_
 have a:=hf.defers
 rw[r] at a
 generalize i:fr.defers=A at a
 cases a with | mQ b t=>?_
 rename_i l m
 have y:fr.mode ≠ .run:=by
  intro e
  have:=hf.mode
  rw[e] at this
  generalize j:F.mode=B at this
  cases this
  exact q j
 obtain⟨l', d,a2,a3⟩:=hi.ob _ _ p
 rw[b] at d;simp only[bj] at d;subst d
 have f:w.heap[l.cZ]? = some (.deferred (some [])):=a3
 have z:=(BG.1 f).1
 have c:(Instr.takeDeferred l.cZ).run P w=.ok [] { w with heap:=w.heap.setIfInBounds l.cZ (.deferred none) }:=by
  simp only[Instr.takeDeferred,Sem.run_bind,getObj,Sem.run,f,Result.andThen_ok]
  simp[setObj,Sem.run,f]
 obtain ⟨v,x⟩:=hi.jr (w' := { w with heap:=w.heap.setIfInBounds l.cZ (.deferred none) }) (ob' := .deferred none) (o' := .df false) p s b (by simp)
  (by grind) (by grind) rfl ⟨rfl,bG _⟩ rfl rfl
 refine⟨{ fr with defers:=m },_,g,⟨hf.fn,hf.size,hf.get,hf.todo,t,hf.mode,hf.kind,hf.round⟩,v,x,.one (step_lone_go ?_)⟩
 have o:∀ u,fr.mode=u→stepG P true { frame:=fr,callers:=cs,status:=.running,dying:=none } w=Go.unwind P true fr cs none w:=by
  grind[stepG]
 rw[o _ rfl]
 simp[Go.unwind,i,Sem.runT_eq,c]
theorem Reach.NY (q:F.mode=.run)(r:F.todo=.NY::k)(s:F.round=some id)(p:S.get id=some (.lp .ready pend fn n mask env params assign body))(t:S.lim≤id)(h:Reach P { F with todo:=k } (S.set id (.lp .busy pend fn n mask env params assign body)) G):Reach P F S G:=by
 refine h.DG rfl rfl rfl rfl fun g w fr cs hf hi=>?_
 have c:=hf.runs q
 have i:=hf.todo
 rw[r] at i
 generalize d:fr.todo=td at i
 cases i with | cons u q2=>?_
 cases u
 rename_i m
 obtain⟨l,v,a2,a3⟩:=hi.ob _ _ p
 have a:=hf.round
 rw[s] at a
 have f:fr.roundOf=some l.cZ:=by
  cases e:fr.roundOf with
  | none=>rw[e] at a;exact a.elim
  | some b=>rw[e] at a;obtain⟨l', c1,c2⟩:=a;grind
 obtain⟨lo,o,x,y,z,A,B,C,D,E⟩:=a3
 have J:=(BG.1 o).1
 have j:(Instr.beginRound l.cZ).run P w=.ok () { w with heap:=w.heap.setIfInBounds l.cZ (.loop { lo with state:=.busy }) }:=by
  simp only[Instr.beginRound,Instr.getLoop,Sem.run_bind,getObj,Sem.run,o,Result.andThen_ok,Sem.run_pure]
  simp[setObj,Sem.run,o,x]
 obtain ⟨H,I⟩:=hi.jr (w' := { w with heap:=w.heap.setIfInBounds l.cZ (.loop { lo with state:=.busy }) }) (ob' := .loop { lo with state:=.busy }) (o' := .lp .busy pend fn n mask env params assign body) p t v (by simp)
  (by grind) (by grind) rfl ⟨rfl,bG _⟩ rfl
  ⟨_,rfl,rfl,y,z,A,B,C,D,E⟩
 refine⟨{ fr with todo:=m },_,g,hf.with q2,H,I,.one (step_lone_go ?_)⟩
 simp only[stepG,stepG.exec,c,d,stepG.apply,f,Option.elim,Sem.runT_eq,if_true,Sem.run_bind,j,Result.andThen_ok,Sem.run_pure]
 simp[Frame.finish,d,c,f]
def Rj (n mask:Nat):List (Nat×AV)→List Tmp→List AV→List (Nat×AV)
 | env,t::ts,v::a=>match tb mask t,Nat.ble (t+1) n with
   | true,true=>Rj n mask (up env t v) ts a
   | _,_=>Rj n mask env ts a
 | env,_,_=>env
def ue (id fn n mask:Nat)(env:List (Nat×AV))(params:List Tmp)(assign body:Code)(args:List AV):ae:=
 { fn:=fn,n:=n,mask:=mask,loc:=[],qS:=Rj n mask env params args,todo:=[.code assign,.NY,.code body],defers:=[],mode:=.run,kind:=.normal,cm:=.run,round:=some id }
theorem FW : ∀(l:List (Tmp×Value)) (tmps:Array Value),(l.foldl (fun tmps (x:Tmp×Value)=>tmps.setIfInBounds x.1 x.2) tmps).size=tmps.size:=by
 intro l
 induction l<;>grind
theorem FX {g:Gh}:∀ {params:List Tmp} {args:List AV} {xs:List Value} {env:List (Nat×AV)} {tmps:Array Value},tmps.size=n→args.length=params.length→hJ g args xs.toArray →
   (∀ t v,tb mask t=true→lk env t=some v→∃ x,tmps[t]? = some x∧VR g v x) →
   ∀ t v,tb mask t=true→lk (Rj n mask env params args) t=some v→∃ x,((params.zip xs).foldl (fun tmps (x:Tmp×Value)=>tmps.setIfInBounds x.1 x.2) tmps)[t]? = some x∧VR g v x:=by
 intro params
 induction params with
 | nil=>
   intro args xs env tmps _ _ _ i t v f e
   have D:lk env t=some v:=by grind[Rj]
   simp_all
 | cons p C s=>
   intro args xs env tmps o B hx i t v f e
   cases args with
   | nil=>simp at B
   | cons a as=>
     cases xs with
     | nil=>have:=hx.1;simp at this
     | cons x xs=>
       have z:VR g a x:=hx.2 0 a x rfl rfl
       have l:hJ g as xs.toArray:=⟨by have:=hx.1;simpa using this,fun k b y c d=>hx.2 (k+1) b y (by simpa using c) (by simpa using d)⟩
       simp only[List.zip_cons_cons,List.foldl_cons]
       have m:as.length=C.length:=by simpa using B
       have j:(tb mask p=false∨¬ p<n)→∀ t v,tb mask t=true→lk env t=some v→∃ y,(tmps.setIfInBounds p x)[t]? = some y∧VR g v y:=by
         intro A t v f e
         obtain⟨y,r,u⟩:=i t v f e
         refine⟨y,?_,u⟩
         rw[sj]
         by_cases h:p=t
         · subst h
           exfalso
           rcases A with q | q
           · rw[q] at f;simp at f
           · exact q (o▸(BG.1 r).1)
         · rw[if_neg h];exact r
       simp only[Rj] at e
       cases w:tb mask p with
       | false=>
         rw[w] at e
         exact s (by simpa using o) m l (j (.inl w)) t v f e
       | true=>
         rw[w] at e
         cases hb:Nat.ble (p+1) n with
         | false=>
           rw[hb] at e
           exact s (by simpa using o) m l (j (.inr fun q=>by rw[GY q] at hb;simp at hb)) t v f e
         | true=>
           rw[hb] at e
           have E:=gw hb
           refine s (env:=up env p a) (by simpa using o) m l (fun t v f e=>?_) t v f e
           by_cases h:t=p
           · subst h
             rw[vG] at e;simp only[bj] at e;subst e
             exact⟨x,by simp[show t<tmps.size by omega],z⟩
           · rw[tA _ _ h] at e
             obtain⟨y,r,u⟩:=i t v f e
             exact⟨y,by rw[sj,if_neg (Ne.symm h)];exact r,u⟩
def CX : List bf→Option Code
 | .code .ret::_=>some .ret
 | .code (.exit b)::k=>match wg b k with
   | none=>some (.exit b)
   | some _=>none
 | _=>none
def Le (id:Nat)(F' : ae)(a:ag)(Q:gQ→ag→Prop):Prop:=
 F'.defers=[]∧((F'.mode=.run∧∃ st pend fn n mask env params assign body,a.get id=some (.lp st pend fn n mask env params assign body)∧a.lim≤id ∧
   ((F'.todo=[]∧Q (.ret (.sc (.bool true))) (a.set id (.lp .ready none fn n mask env params assign body))) ∨
    ∃ c,CX F'.todo=some c∧Q (.ret (.sc (.bool false))) (a.set id (.lp .done (some c) fn n mask env params assign body)))) ∨
  ∃ l,F'.mode=.panicking l∧Q (.wI l) a)
theorem Reach.aee {all:Array Oper}{i:Nat}{rest:List Nat}{o:Oper}{args:List AV}{fnc:Func}(hm:F.mode=.run)(ht:F.todo=.ops all (i::rest)::k)(ho:all[i]? = some o)(hg:tf F all o=some true)(hsp:cr o.op=false)(ha:gH P F.eval S o.op=some (.rV id args))(hlp:S.get id=some (.lp st pend fn n mask env params assign body))(V:args.length=params.length)(hfn:P.funcs[fn]? = some fnc)(h:Reach P (ue id fn n mask env params assign body args) S fun F' S' => Le id F' S' fun r q=>Reach P (F.back o all rest k r) q G):Reach P F S G:=by
 intro g w fr cs0 cs hf hcs hi
 obtain⟨m,e1,e2⟩:=hf.split ht ho
 obtain⟨l,xs,r0,r1,r2⟩:=j9 hi (K6.of hf) ha
 have W:=hf.runs hm
 obtain⟨l', a1,a2,a3⟩:=hi.ob _ _ hlp
 rw[r0] at a1;simp only[bj] at a1;subst a1
 obtain⟨lo,b1,b2,b3,b4,b5,b6,b7,b8,b9⟩:=a3
 have hsz:xs.size=lo.params.size:=by rw[b7,←r2.1,V];simp
 have hy:(Instr.yield l.cZ xs).run P w=.ok (.round l.cZ lo.fn ((lo.params.zip xs).foldl (fun tmps (x:Tmp×Value)=>tmps.setIfInBounds x.1 x.2) lo.tmps) lo.assign lo.body) w:=by
   simp[Instr.yield,Instr.getLoop,Sem.run_bind,getObj,Sem.run,b1,hsz]
 rw[hy] at r1
 obtain⟨DB,X⟩:∃ x:Frame,x=Frame.round l.cZ lo.fn ((lo.params.zip xs).foldl (fun tmps (x:Tmp×Value)=>tmps.setIfInBounds x.1 x.2) lo.tmps) lo.assign lo.body .normal:=⟨_,rfl⟩
 have hs:=gL (P:=P) (cs:=cs) (w:=w) W e1 ho (lj hf hg) (.inr hsp)
 have hst:step P (lone fr cs w)=.next (lone DB (fr::cs) w):=by
   refine step_lone_go ?_
   rw[hs,X]
   simp[stepG.apply,r1]
 have hfold:(lo.params.zip xs).foldl (fun tmps (x:Tmp×Value)=>tmps.setIfInBounds x.1 x.2) lo.tmps=(params.zip xs.toList).foldl (fun tmps (x:Tmp×Value)=>tmps.setIfInBounds x.1 x.2) lo.tmps:=by
   rw[←Array.foldl_toList,Array.toList_zip,b7]
 have hFR:nk P g (ue id fn n mask env params assign body args) DB:=by
   rw[X,hfold]
   refine⟨b4,?_,?_,.cons (by rw[b8];exact .code) (.cons .NY (.cons (by rw[b9];exact .code) .nil)),.nil,.run,rfl,⟨l,r0,rfl⟩⟩
   · show((params.zip xs.toList).foldl _ lo.tmps).size=n
     rw[FW];exact b5
   · intro t v e
     simp only[ae.get,ue] at e
     split at e
     · rename_i hmt
       exact FX b5 V (by simpa using r2) (fun t v _ e=>b6 t v e) t v hmt e
     · simp[qX] at e
 obtain⟨F', S', g', w', d,Q,⟨hd,O⟩,p1,p2,p3,p4,p5,p6,p7,p8⟩:=h g w DB (fr::cs) (fr::cs) hFR (by simp[wR,ue]) hi
 have hk:F'.kind=.normal:=p3
 have hcs' : Q=fr::cs:=by unfold wR at p2;rw[hk] at p2;exact p2
 subst hcs'
 have hfn' : d.fn=fn:=p1.fn.trans p4
 have hdf:d.defers=[]:=by have:=p1.defers;rw[hd] at this;exact this.Js
 have hkd:d.kind=.normal:=p1.kind.trans hk
 have u:d.roundOf=some l.cZ:=by
   have H:=p1.round
   rw[p5] at H
   have hl' := p7.oS.ph _ _ r0
   cases e:d.roundOf with
   | none=>rw[e] at H;exact H.elim
   | some b=>rw[e] at H;obtain⟨l2,c1,c2⟩:=H;rw[hl'] at c1;simp only[bj] at c1;subst c1;rw[c2]
 have fin:∀(r:gQ) (q:ag) (s:World) (R:Frame),Reach P (F.back o all rest k r) q G→Inv q g' s→Ext S' g' w' q g' s→step P (lone d (fr::cs) w')=.next (lone R cs s)→nk P g' (F.back o all rest k r) R →
     ∃ F' q T s d Q,G F' q∧nk P T F' d∧wR T F' cs0 Q∧F'.kind=F.kind∧F'.fn=F.fn∧F'.round=F.round∧Inv q T s∧Ext S g w q T s∧Steps P (lone fr cs w) (lone d Q s):=by
   intro r q s R hR hI hE hst2 hfr2
   have p:(F.back o all rest k r).kind=F.kind∧(F.back o all rest k r).fn=F.fn∧(F.back o all rest k r).round=F.round∧(F.back o all rest k r).cm=F.cm:=by
     cases r with
     | ret v=>exact F.iK o v all rest k
     | wI l=>exact⟨rfl,rfl,rfl,rfl⟩
   have hxx:=p7.trans hE
   obtain⟨F2,S2,g3,w3,fr3,cs2,q', z1,z2,z3,z4,z5,z6,z7,z8⟩:=hR g' s R cs0 cs hfr2 ((hcs.mono hxx.oS).congr p.1 p.2.2.2) hI
   exact⟨F2,S2,g3,w3,fr3,cs2,q', z1,z2,z3.trans p.1,z4.trans p.2.1,z5.trans p.2.2.1,z6,hxx.trans z7,Steps.head hst (Steps.trans p8 (Steps.head hst2 z8))⟩
 have y:=hf.mono p7.oS
 have e2x:=e2.mono p7.oS
 rcases O with⟨hmr,st2,pend2,fn2,n2,L,Y,params2,B,M,Z,hlim2,O⟩ | ⟨lch,hmp,O⟩
 · have C:=p1.runs hmr
   obtain⟨l2,c1,c2,c3⟩:=p6.ob _ _ Z
   rw[p7.oS.ph _ _ r0] at c1;simp only[bj] at c1;subst c1
   obtain⟨I,d1,d2,d3,d4,d5,d6,d7,d8,d9⟩:=c3
   have hlt:=(BG.1 d1).1
   have J:∀ a,(Instr.endRound l.cZ a).run P w' = .ok (.bool a.isNone) { w' with heap:=w'.heap.setIfInBounds l.cZ (.loop { I with state:=if a.isNone then .ready else .done,pending:=a }) }:=by
     intro a
     simp only[Instr.endRound,Instr.getLoop,Sem.run_bind,getObj,Sem.run,d1,Result.andThen_ok,Sem.run_pure]
     simp[setObj,Sem.run,d1]
   have hupd:∀(E:LoopState) (a:Option Code),Inv (S'.set id (.lp E a fn2 n2 L Y params2 B M)) g' { w' with heap:=w'.heap.setIfInBounds l.cZ (.loop { I with state:=E,pending:=a }) } ∧
       Ext S' g' w' (S'.set id (.lp E a fn2 n2 L Y params2 B M)) g' { w' with heap:=w'.heap.setIfInBounds l.cZ (.loop { I with state:=E,pending:=a }) }:=by
     intro E a
     exact p6.jr (ob' := .loop { I with state:=E,pending:=a }) Z hlim2 (p7.oS.ph _ _ r0) (by simp)
       (by show(w'.heap.setIfInBounds l.cZ _)[l.cZ]? = _;simp[hlt]) (by intro j hj;show(w'.heap.setIfInBounds l.cZ _)[j]? = _;rw[sj,if_neg (Ne.symm hj)]) rfl ⟨rfl,bG _⟩ rfl
       ⟨_,rfl,rfl,rfl,d4,d5,d6,d7,d8,d9⟩
   have N:∀ b:Bool,nk P g' (F.back o all rest k (.ret (.sc (.bool b)))) (fr.finish (.bool b)):=fun b=>y.after e1 e2x ho (.sc rfl)
   have z:=p1.todo
   rcases O with⟨htn,O⟩ | ⟨c,f,O⟩
   · rw[htn] at z
     generalize A:d.todo=td at z
     cases z
     obtain⟨u1,u2⟩:=hupd .ready none
     refine fin _ _ _ (fr.finish (.bool true)) O u1 u2 (step_lone_go ?_) (N true)
     simp[stepG,stepG.exec,C,A,u,Sem.runT_eq,J,doReturn,hkd]
   · obtain⟨u1,u2⟩:=hupd .done (some c)
     have hgo:step P (lone d (fr::cs) w')=.next (lone (fr.finish (.bool false)) cs { w' with heap:=w'.heap.setIfInBounds l.cZ (.loop { I with state:=.done,pending:=some c }) }):=by
       refine step_lone_go ?_
       generalize htodo:F'.todo=T' at z f
       unfold CX at f
       split at f
       · simp only[bj] at f;subst f
         generalize A:d.todo=td at z
         cases z with | cons y1 y2=>?_
         cases y1
         simp[stepG,stepG.exec,C,A,u,Sem.runT_eq,J,doReturn,hkd]
       · split at f<;>simp only[bj,reduceCtorEq] at f
         rename_i xid bb hexq hex
         subst f
         generalize A:d.todo=td at z
         cases z with | cons y1 y2=>?_
         cases y1
         have K:=xx (id:=xid) y2
         rw[hex] at K
         simp only at K
         simp[stepG,stepG.exec,C,A,K,u,Sem.runT_eq,J,doReturn,hkd]
       · simp at f
     exact fin _ _ _ (fr.finish (.bool false)) O u1 u2 hgo (N false)
 · have D:=p1.mode
   rw[hmp] at D
   obtain⟨mm,hm', hch⟩:∃ m,d.mode=.panicking m∧hZ g' lch m:=by generalize d.mode=md at D ⊢;cases D with | panicking h=>exact⟨_,rfl,h⟩
   have U:d.going P w' (.panicked mm):=⟨hm', hdf,fnc,by rw[hfn'];exact hfn⟩
   refine fin (.wI lch) S' w' (fr.raise mm) O p6 (Ext.refl _ _ _) (step_leave_panicked U) ?_
   have:fr.raise mm={ fr with mode:=.panicking mm }:=by simp[Frame.raise,W]
   rw[this]
   exact⟨y.fn,y.size,y.get,y.todo,y.defers,.panicking hch,y.kind,y.round⟩
end
end Go.Eng
namespace Go.Eng
noncomputable section
def Vd (P:Program)(ρ:Operand→Option AV)(S:ag)(x:Operand):Option de:=
 mM S (ρ x)
def O0 (P:Program)(ρ:Operand→Option AV)(S:ag)(x:Operand):Option de:=
 mM S (ρ x)
def Ve (P:Program)(ρ:Operand→Option AV)(S:ag)(c:Operand)(a:Operand)(b:Operand):Option de:=
 match ρ c with
 | some (.sc (.bool true))=>mM S (ρ a)
 | some (.sc (.bool false))=>mM S (ρ b)
 | _=>none
def RJ (P:Program)(ρ:Operand→Option AV)(S:ag)(t:TypeId):Option de:=
 match iW P t with
 | some z=>Dz (Ig S z)
 | none=>none
def Yg (P:Program)(ρ:Operand→Option AV)(S:ag)(x:Operand):Option de:=
 match ρ x with
 | some v=>Dz (Ig S v)
 | none=>none
def RK (P:Program)(ρ:Operand→Option AV)(S:ag)(t:TypeId)(a:Array (Nat×Operand)):Option de:=
 match w5 ρ a.toList with
 | some l=>mM S (Eu P t l)
 | none=>none
def Gr (P:Program)(ρ:Operand→Option AV)(S:ag)(t:TypeId)(n:Nat)(a:Array (Nat×Operand)):Option de:=
 match w5 ρ a.toList with
 | some l=>Dz (og P S t n l)
 | none=>none
def Vf (P:Program)(ρ:Operand→Option AV)(S:ag)(t:TypeId)(a:Operand):Option de:=
 match ρ a with
 | some p=>match kX S p with
   | some cs=>mM S (tX P t cs)
   | none=>none
 | none=>none
def RL (P:Program)(ρ:Operand→Option AV)(S:ag)(t:TypeId)(a:Operand)(x:Operand):Option de:=
 match ρ a,ρ x with
 | some p,some v=>NQ (xR P S t p v)
 | _,_=>none
def J9 (P:Program)(ρ:Operand→Option AV)(S:ag)(x:Operand):Option de:=
 match ρ x with
 | some (.ptr id i j)=>some (.val (.ptr id i j) S)
 | some (.dN cs)=>some (.val (.dN cs) S)
 | some (.fn (.func f) a b)=>some (.val (.fn (.func f) a b) S)
 | some (.rV id)=>some (.val (.rV id) S)
 | some (.eu t v)=>some (.val (.eu t v) S)
 | some y=>match Qe P y with
   | true=>some (.val y S)
   | false=>none
 | none=>none
def RM (P:Program)(ρ:Operand→Option AV)(S:ag)(op:BinOp)(t:TypeId)(x:Operand)(y:Operand):Option de:=
 match ρ x,ρ y with
 | some (.sc .nilIface),some (.sc .nilIface)=>match P.underlying t with
   | some (.interface _)=>match uL x||uL y with
     | true=>mM S (nW op true)
     | false=>none
   | _=>none
 | some a,some b=>mM S (uH P op t a b)
 | _,_=>none
def Vg (P:Program)(ρ:Operand→Option AV)(S:ag)(op:UnOp)(x:Operand):Option de:=
 match ρ x with
 | some a=>mM S (Tg op a)
 | none=>none
def Mz (P:Program)(ρ:Operand→Option AV)(S:ag)(s:TypeId)(d:TypeId)(x:Operand):Option de:=
 match ρ x with
 | some a=>mM S (Fo P s d a)
 | none=>none
def Bq (P:Program)(ρ:Operand→Option AV)(S:ag)(t:TypeId)(x:Operand):Option de:=
 match P.underlying t,ρ x with
 | some (.interface _),_=>none
 | some _,some v=>some (.val (.eu t v) S)
 | _,_=>none
def Ka (P:Program)(ρ:Operand→Option AV)(S:ag)(f:Fn)(a:Array Operand)(b:Array Operand):Option de:=
 match re ρ a.toList,re ρ b.toList with
 | some x,some y=>some (.val (.fn f x y) S)
 | _,_=>none
def MA (P:Program)(ρ:Operand→Option AV)(S:ag)  : Option de:=
 Dz (yb S)
def Hv (P:Program)(ρ:Operand→Option AV)(S:ag)(t:TypeId)(l:Operand)(c:Operand):Option de:=
 match ρ l,ρ c with
 | some x,some y=>Dz (nK P S t x y)
 | _,_=>none
def RN (P:Program)(ρ:Operand→Option AV)(S:ag)(t:TypeId)(x:Operand)(lo:Option Operand)(hi:Option Operand):Option de:=
 match ρ x,(match lo with
  | none=>some none
  | some a=>match ρ a with
    | some v=>some (some v)
    | none=>none),(match hi with
  | none=>some none
  | some a=>match ρ a with
    | some v=>some (some v)
    | none=>none) with
 | some a,some l,some h=>mM S (vA P S t a l h)
 | _,_,_=>none
def Vh (P:Program)(ρ:Operand→Option AV)(S:ag)(t:TypeId)(x hi b:Operand):Option de:=
 match ρ x,ρ hi,ρ b with
 | some a,some h,some m=>mM S (Jo P t a h m)
 | _,_,_=>none
def Yh (P:Program)(ρ:Operand→Option AV)(S:ag)(t:TypeId)(x lo hi b:Operand):Option de:=
 match ρ x,ρ lo,ρ hi,ρ b with
 | some a,some l,some h,some m=>mM S (Qd P t a l h m)
 | _,_,_,_=>none
def Hw (P:Program)(ρ:Operand→Option AV)(S:ag)(s:TypeId)(x:Operand)(f:Nat):Option de:=
 match ρ x with
 | some a=>mM S (tB P s a f)
 | none=>none
def RO (P:Program)(ρ:Operand→Option AV)(S:ag)(t:TypeId)(x:Operand)(f:Nat):Option de:=
 match ρ x with
 | some a=>mM S (Et P t a f)
 | none=>none
def Hx (P:Program)(ρ:Operand→Option AV)(S:ag)(t:TypeId)(x:Operand)(c:Operand):Option de:=
 match ρ x,ρ c with
 | some a,some b=>mM S (dP P S t a.qV b)
 | _,_=>none
def RP (P:Program)(ρ:Operand→Option AV)(S:ag)(t:TypeId)(x:Operand)(c:Operand):Option de:=
 match ρ x,ρ c with
 | some a,some b=>mM S (n6 P t a b)
 | _,_=>none
def O1 (P:Program)(ρ:Operand→Option AV)(S:ag)(t:TypeId)(x:Operand)(c:Operand)(ok:Bool):Option de:=
 match ρ x,ρ c with
 | some a,some b=>mM S (sx P S t a b ok)
 | _,_=>none
def Hy (P:Program)(ρ:Operand→Option AV)(S:ag)(t:TypeId)(m:Operand)(k:Operand)(x:Operand):Option de:=
 match ρ m,ρ k,ρ x with
 | some a,some b,some c=>NQ (n9 P S t a b c)
 | _,_,_=>none
def O2 (P:Program)(ρ:Operand→Option AV)(S:ag)(t:TypeId)(m:Operand)(k:Operand)(x:Operand):Option de:=
 match ρ m,ρ k,ρ x with
 | some a,some b,some c=>NQ (n9 P S t a b c)
 | _,_,_=>none
def RR (P:Program)(ρ:Operand→Option AV)(S:ag)(t:TypeId)(x:Operand):Option de:=
 match ρ x with
 | some a=>Dz (xS P S t a)
 | none=>none
def Vi (P:Program)(ρ:Operand→Option AV)(S:ag)(b:Operand)(s:Bool):Option de:=
 match ρ b with
 | some a=>Dz (zp S a s)
 | none=>none
def RS (P:Program)(ρ:Operand→Option AV)(S:ag)(b:Operand):Option de:=
 match ρ b with
 | some a=>mM S (xT S a)
 | none=>none
def Gs (P:Program)(ρ:Operand→Option AV)(S:ag)(x:Operand)(t:TypeId)(ok:Bool):Option de:=
 match ρ x with
 | some a=>mM S (AE P t a ok)
 | none=>none
def MB (P:Program)(ρ:Operand→Option AV)(S:ag)(t:Operand)(a:Nat):Option de:=
 match ρ t with
 | some (.bO b)=>mM S (nth b a)
 | _=>none
def Vj (P:Program)(ρ:Operand→Option AV)(S:ag)(c:Call):Option de:=
 xh P ρ S c
def RT (P:Program)(ρ:Operand→Option AV)(S:ag)(c:Call):Option de:=
 match re ρ c.args.toList with
 | some args=>match c.callee with
   | .value f=>match ρ f with
     | some (.fn (.func g) first cap)=>match nm P g with
       | true=>some (.rN g cap (first++args))
       | false=>none
     | _=>none
   | _=>none
 | none=>none
def RU (P:Program)(ρ:Operand→Option AV)(S:ag)(x:Operand):Option de:=
 match ρ x with
 | some (.eu t v)=>some (.wI (.eu t v))
 | _=>none
def DH (P:Program)(ρ:Operand→Option AV)(S:ag)(o:Op):Option de:=
 match o with
 | .move x=>Vd P ρ S x
 | .assign x=>O0 P ρ S x
 | .pick c a b=>Ve P ρ S c a b
 | .alloc t=>RJ P ρ S t
 | .box _ x=>Yg P ρ S x
 | .build t g=>RK P ρ S t g
 | .buildSlice t n g=>Gr P ρ S t n g
 | .load t a=>Vf P ρ S t a
 | .store t a x=>RL P ρ S t a x
 | .nilCheck x=>J9 P ρ S x
 | .binOp op t x y _=>RM P ρ S op t x y
 | .unOp op _ x=>Vg P ρ S op x
 | .convert s d x=>Mz P ρ S s d x
 | .makeInterface t x=>Bq P ρ S t x
 | .makeFunc f a b=>Ka P ρ S f a b
 | .makeMap _ none=>MA P ρ S
 | .makeSlice t l c=>Hv P ρ S t l c
 | .slice t x lo hi none=>RN P ρ S t x lo hi
 | .slice t x none (some hi) (some h)=>Vh P ρ S t x hi h
 | .slice t x (some lo) (some hi) (some h)=>Yh P ρ S t x lo hi h
 | .fieldAddr s x f=>Hw P ρ S s x f
 | .field t x f=>RO P ρ S t x f
 | .indexAddr t x e=>Hx P ρ S t x e
 | .index t x e=>RP P ρ S t x e
 | .lookup t x e ok=>O1 P ρ S t x e ok
 | .mapUpdate t m k x=>Hy P ρ S t m k x
 | .insert t m k x=>O2 P ρ S t m k x
 | .range t x=>RR P ρ S t x
 | .next i s=>Vi P ρ S i s
 | .entry i=>RS P ρ S i
 | .typeAssert x _ t ok=>Gs P ρ S x t ok
 | .extract t e=>MB P ρ S t e
 | .call c=>Vj P ρ S c
 | .defer c=>RT P ρ S c
 | .panic x=>RU P ρ S x
 | _=>none
theorem na (P:Program)(ρ:Operand→Option AV)(S:ag)(o:Op):DH P ρ S o=gH P ρ S o:=by
 cases o with
 | makeMap t r=>cases r<;>rfl
 | slice t x l h m=>cases m<;>cases l<;>cases h<;>rfl
 | _=>rfl
end
end Go.Eng
namespace Go.Eng
noncomputable section
def aaa (F:ae)(t:Nat)(v:AV):ae:=
 match F with
 | ⟨fn,n,mask,loc,qS,todo,defers,mode,kind,cm,round⟩=>match Nat.ble (t+1) n with
   | true=>match tb mask t with
     | true=>⟨fn,n,mask,loc,up qS t v,todo,defers,mode,kind,cm,round⟩
     | false=>⟨fn,n,mask,(t,v)::loc,qS,todo,defers,mode,kind,cm,round⟩
   | false=>⟨fn,n,mask,loc,qS,todo,defers,mode,kind,cm,round⟩
theorem Yi (F:ae)(t:Nat)(v:AV):aaa F t v=F.set t v:=by
 cases F with | mk a n m b c d e f g h i=>?_
 grind[aaa,ae.set]
def Rk (F:ae)(d:Option Tmp)(v:AV):ae:=
 match d with
 | some t=>aaa F t v
 | none=>F
theorem Ew (F:ae)(d:Option Tmp)(v:AV):Rk F d v=F.put d v:=by
 cases d with
 | none=>rfl
 | some t=>exact Yi F t v
def lM (F:ae)(td:List bf):ae:=
 match F with
 | ⟨fn,n,mask,loc,qS,_,defers,mode,kind,cm,round⟩=>⟨fn,n,mask,loc,qS,td,defers,mode,kind,cm,round⟩
theorem fw (F:ae)(td:List bf):lM F td={ F with todo:=td }:=rfl
def Ii (F:ae)(td:List bf):ae:=
 match F with
 | ⟨fn,n,mask,_,qS,_,defers,mode,kind,cm,round⟩=>⟨fn,n,mask,[],qS,td,defers,mode,kind,cm,round⟩
theorem LM (F:ae)(td:List bf):Ii F td={ F with todo:=td,loc:=[] }:=rfl
def TY (F:ae)(a:dq):ae:=
 match F with
 | ⟨fn,n,mask,loc,qS,todo,defers,_,kind,cm,round⟩=>⟨fn,n,mask,loc,qS,todo,defers,a,kind,cm,round⟩
def np (F:ae)(o:Oper)(v:AV)(all:Array Oper)(rest:List Nat)(k:List bf):ae:=lM (Rk F o.dst v) (.ops all rest::k)
theorem gr (F:ae)(o:Oper)(v:AV)(all:Array Oper)(rest:List Nat)(k:List bf):np F o v all rest k=F.after o v all rest k:=by
 unfold np ae.after
 rw[Ew,fw]
def Ly (F:ae)(o:Oper)(all:Array Oper)(rest:List Nat)(k:List bf):gQ→ae
 | .ret v=>np F o v all rest k
 | .wI l=>TY F (.panicking l)
theorem AH (F:ae)(o:Oper)(all:Array Oper)(rest:List Nat)(k:List bf)(r:gQ):Ly F o all rest k r=F.back o all rest k r:=by
 cases r with
 | ret v=>exact gr F o v all rest k
 | wI l=>rfl
def af5 (F:ae):Option Nat→Option ae
 | none=>some (TY F .returning)
 | some _=>none
def ajr (F:ae)(td:List bf)(x y:Code):Option AV→Option ae
 | some (.sc (.bool true))=>some (lM F (.code x::td))
 | some (.sc (.bool false))=>some (lM F (.code y::td))
 | _=>none
def ajs (F:ae):Option (List bf)→Option ae
 | some td=>some (lM F td)
 | none=>none
def ajt (F:ae)(td:List bf):Code→Option ae
 | .ret=>af5 F F.round
 | .skip=>some (lM F td)
 | .label _=>some (lM F td)
 | .seq x y=>some (lM F (.code x :: .code y::td))
 | .cond c x y=>ajr F td x y (F.eval c)
 | .block id x=>some (lM F (.code x :: .inBlock id::td))
 | .loop x=>some (lM F (.code x :: .inLoop x::td))
 | .scope x=>some (lM F (.code x :: .inScope x::td))
 | .exit id=>ajs F (wg id td)
 | .region _ all false=>some (Ii F (.ops all (List.range all.size)::td))
 | _=>none
def aju (F:ae)(td:List bf):bf→Option ae
 | .code c=>ajt F td c
 | .inBlock _=>some (lM F td)
 | .inScope _=>some (lM F td)
 | .inLoop x=>some (lM F (.code x :: .inLoop x::td))
 | .ops _ []=>some (Ii F td)
 | _=>none
def Rl (F:ae):List bf→Option ae
 | []=>af5 F F.round
 | it::td=>aju F td it
theorem Qt {F:ae}(a:F.mode=.run):Rl F F.todo=Ri F:=by
 obtain⟨fn,n,mask,loc,qS,todo,defers,mode,kind,cm,round⟩:=F
 simp only at a
 subst a
 cases todo with
 | nil=>cases round<;>rfl
 | cons b td=>
   cases b with
   | code c=>
     cases c with
     | ret=>cases round<;>rfl
     | region id all d=>cases d<;>rfl
     | cond c x y=>rfl
     | exit id=>rfl
     | _=>rfl
   | ops all l=>cases l<;>rfl
   | _=>rfl
noncomputable def af6 (l:List Oper):Nat→Option Oper:=
 List.rec (motive:=fun _=>Nat→Option Oper) (fun _=>none) (fun a _ b i=>Nat.rec (motive:=fun _=>Option Oper) (some a) (fun n _=>b n) i) l
theorem Yj : ∀(l:List Oper) (i:Nat),af6 l i=l[i]? := by
 intro l
 induction l with
 | nil=>intro i;rfl
 | cons a r b=>
   intro i
   cases i with
   | zero=>rfl
   | succ i=>exact(b i).trans (by simp)
noncomputable def N4 (all:Array Oper)(i:Nat):Option Oper:=af6 all.toList i
theorem tp (all:Array Oper)(i:Nat):N4 all i=all[i]? := by unfold N4;rw[Yj];simp
def ajY (F:ae)(td:List bf):dq→Option ae
 | .run=>Rl F td
 | _=>none
def Uu : List bf→Bool
 | .code _ :: .inLoop _::_=>true
 | _=>false
def WY : Nat→ae→ae
 | 0,F=>F
 | n+1,F=>match Uu F.todo with
   | true=>F
   | false=>match ajY F F.todo F.mode with
     | some F' => WY n F'
     | none=>F
theorem O3 {P:Program}{S:ag}{G:ae→ag→Prop}:∀(n:Nat) {F:ae},Reach P (WY n F) S G→Reach P F S G:=by
 intro n
 induction n with
 | zero=>intro F h;exact h
 | succ n c=>
   intro F h
   simp only[WY] at h
   cases d:Uu F.todo with
   | true=>grind
   | false=>
   rw[d] at h
   simp only at h
   cases a:ajY F F.todo F.mode with
   | none=>grind
   | some F' =>
     rw[a] at h
     have h:=c h
     have b:F.mode=.run:=by
      cases b:F.mode with
      | run=>rfl
      | returning=>grind[ajY]
      | panicking l=>grind[ajY]
     have hf:Rl F F.todo=some F' := by
      rw[b] at a
      exact a
     grind[Qt,Reach.ae6]
structure BK where
 fn : Func
 body : Code
 mask : Nat
 wide : List (Nat × Nat)
 sep : List (Nat × Nat)
 ext : Option (List AV → ag → Option (AV × ag))
 deriving Inhabited
inductive FT where
 | nil
 | node (o : Option BK) (l r : FT)
def FT.get : Nat→FT→Nat→Option BK
 | _,.nil,_=>none
 | 0,.node o _ _,_=>o
 | d+1,.node _ l r,i=>match Nat.beq (i%2) 0 with
   | true=>FT.get d l (i/2)
   | false=>FT.get d r (i/2)
def FT.set : Nat→FT→Nat→BK→FT
 | 0,_,_,v=>.node (some v) .nil .nil
 | d+1,.nil,i,v=>match Nat.beq (i%2) 0 with
   | true=>.node none (FT.set d .nil (i/2) v) .nil
   | false=>.node none .nil (FT.set d .nil (i/2) v)
 | d+1,.node o l r,i,v=>match Nat.beq (i%2) 0 with
   | true=>.node o (FT.set d l (i/2) v) r
   | false=>.node o l (FT.set d r (i/2) v)
def FT.look (T:FT)(f:Nat):Option BK:=
 match Nat.ble (f+1) 1024 with
 | true=>FT.get 10 T f
 | false=>none
def FT.Lf : Nat→FT→Nat→(List AV→ag→Option (AV×ag))→FT
 | _,.nil,_,_=>.nil
 | 0,.node o l r,_,x=>.node (match o with
   | some e=>some { e with ext:=some x }
   | none=>none) l r
 | d+1,.node o l r,i,x=>match Nat.beq (i%2) 0 with
   | true=>.node o (FT.Lf d l (i/2) x) r
   | false=>.node o l (FT.Lf d r (i/2) x)
def G3 : List (Nat×Nat)→Nat→Nat
 | [],_=>0
 | (k,v)::r,t=>match Nat.beq k t with
   | true=>v
   | false=>G3 r t
def ax (dr:List (Nat×Nat)):List Edge→Nat
 | []=>0
 | e::r=>match Region.binds .any e with
   | true=>Nat.lor (Nat.lor (Nat.shiftLeft 1 e.on) (G3 dr e.on)) (ax dr r)
   | false=>ax dr r
def xV (i:Nat):List Edge→Bool
 | []=>true
 | e::r=>match Region.binds .any e with
   | true=>match Nat.ble (e.on+1) i with
     | true=>xV i r
     | false=>false
   | false=>xV i r
def B1 (ops:Array Oper)(o:Oper)(m:Nat):List (Nat×Oper)→Bool
 | []=>true
 | (j,p)::r=>match tb m j with
   | true=>B1 ops o m r
   | false=>match o.apart ops p with
     | true=>B1 ops o m r
     | false=>false
def Qg (ops:Array Oper):List Oper→Nat→List (Nat×Nat)→List (Nat×Oper)→Bool
 | [],_,_,_=>true
 | o::os,i,dr,done=>match xV i o.after.toList with
   | true=>match B1 ops o (ax dr o.after.toList) done with
     | true=>Qg ops os (i+1) ((i,ax dr o.after.toList)::dr) ((i,o)::done)
     | false=>false
   | false=>false
def CY (ops:Array Oper):Bool:=Qg ops ops.toList 0 [] []
abbrev xQ := List (Nat×Option aL)
inductive K7 where
 | WL (c : xQ)
 | wide (lim nx : Nat)
structure rO where
 fn : Func
 F : ae
 S : ag
 ops : Array Oper
 os : List Oper
 i : Nat
 dr : List (Nat × Nat)
 wm : Nat
 sm : Nat
 km : List (Nat × K7)
 es : List (Nat × ag)
inductive DM where
 | quiet
 | wide (bE : List Nat)
 | sep (ids : List Nat)
inductive cG where
 | nil
 | hole (G : ae → ag → Prop)
 | call (fn : Func) (F : ae) (o : Oper) (all : Array Oper) (rest : List Nat) (k : List bf) (next : cG)
 | rN (fn : Func) (F : ae) (ds : List gS) (next : cG)
 | loop (fn : Func) (F : ae) (d l : Nat) (k : List bf) (next : cG)
 | round (fn : Func) (F : ae) (o : Oper) (all : Array Oper) (rest : List Nat) (k : List bf) (id : Nat) (next : cG)
 | fS (D : rO) (o : Oper) (os : List Oper) (E : ag) (pi : Nat) (bE : DM) (rnd : Option Nat) (next : cG)
inductive St where
 | run (fn : Func) (F : ae) (S : ag) (k : cG)
 | fS (D : rO) (k : cG)
 | done (r : gQ) (S : ag)
 | fork (fn : Func) (k : cG) (l : List (ae × ag))
 | bad (why : Nat)
def qR : xQ→Nat→Bool
 | [],_=>false
 | (k,_)::r,t=>match Nat.beq k t with
   | true=>true
   | false=>qR r t
def K7.has : K7→Nat→Bool
 | .WL c,t=>qR c t
 | .wide lim nx,t=>match Nat.ble lim t with
   | true=>Nat.ble (t+1) nx
   | false=>false
def ju (a:Nat):List (Nat×K7)→Nat→Bool
 | [],_=>true
 | (j,c)::r,id=>match tb a j with
   | true=>ju a r id
   | false=>match c.has id with
     | true=>false
     | false=>ju a r id
def uf (a:Nat):List (Nat×ag)→Nat→Bool
 | [],_=>true
 | (j,E)::r,id=>match tb a j with
   | true=>uf a r id
   | false=>match E.get id with
     | some _=>false
     | none=>uf a r id
def Zq : AV→List Nat
 | .clip (.ai id _ _)=>[id]
 | .ptr id _ _=>[id]
 | .ai id _ _=>[id]
 | .cQ id=>[id]
 | .rV id=>[id]
 | _=>[]
def iD (F:ae):List Operand→List Nat
 | []=>[]
 | x::r=>match F.eval x with
   | some v=>Zq v++iD F r
   | none=>iD F r
def iU (o:Op):List Operand:=
 match o with
 | .store _ a _=>[a]
 | .mapUpdate _ m k _=>[m,k]
 | .insert _ m k _=>[m,k]
 | _=>o.operands.toList
def seen (S:ag)(a:Nat)(km:List (Nat×K7)):List Nat→PT→PT
 | [],m=>m
 | id::r,m=>match ju a km id with
   | true=>match S.get id with
     | some o=>seen S a km r (PT.set dep m id (some o))
     | none=>seen S a km r m
   | false=>seen S a km r m
def hidden (a:Nat):List (Nat×K7)→Option (List Nat)
 | []=>some []
 | (j,c)::r=>match tb a j with
   | true=>hidden a r
   | false=>match c with
     | .wide _ _=>none
     | .WL c=>match hidden a r with
       | some l=>some (c.map (·.1)++l)
       | none=>none
def js (m:PT):List Nat→PT
 | []=>m
 | id::r=>js (PT.set dep m id none) r
def zq (S:ag)(m:PT):List Nat→PT
 | []=>m
 | id::r=>zq S (PT.set dep m id (S.get id)) r
def CZ (a:Nat):List (Nat×ag)→Bool
 | []=>true
 | (j,_)::r=>match tb a j with
   | true=>CZ a r
   | false=>false
def tU (m:PT):xQ→PT
 | []=>m
 | (id,o)::r=>tU (PT.set dep m id o) r
def children : aL→List AV
 | .arr _ es=>es
 | .mp a=>a.map (·.1)++a.map (·.2)
 | .lp _ _ _ _ _ env _ _ _=>env.map (·.2)
 | _=>[]
def parts : AV→List AV
 | .agg cs=>cs
 | .lit es=>es
 | .dN es=>es
 | .fn _ a b=>a++b
 | .eu _ x=>[x]
 | .clip x=>[x]
 | .bO c=>c
 | _=>[]
def aab (E:ag)(lo:Nat)(a:xQ)(id:Nat):Option aL:=
 match Nat.ble lo id with
 | true=>match qR a id with
   | true=>none
   | false=>E.get id
 | false=>none
def w7 : Nat:=1000000
def mH (E:ag)(lo:Nat):Nat→List AV→xQ→xQ
 | 0,_,a=>a
 | _,[],a=>a
 | n+1,v::r,a=>match Zq v with
   | []=>mH E lo n (parts v++r) a
   | id::_=>match aab E lo a id with
     | some o=>mH E lo n (children o++r) ((id,some o)::a)
     | none=>mH E lo n r a
def kids (S:ag):List Nat→List AV
 | []=>[]
 | id::r=>match S.get id with
   | some o=>children o++kids S r
   | none=>kids S r
def B2 (a:Nat)(km:List (Nat×K7)):xQ→xQ
 | []=>[]
 | (id,o)::r=>match ju a km id with
   | true=>(id,o)::B2 a km r
   | false=>B2 a km r
def yT (lim:Nat):xQ→List Nat
 | []=>[]
 | (id,_)::r=>match Nat.ble lim id with
   | true=>id::yT lim r
   | false=>yT lim r
def sk (E:ag)(n:Nat):Nat→xQ
 | 0=>[]
 | k+1=>match E.get (n+k) with
   | some o=>(n+k,some o)::sk E n k
   | none=>sk E n k
def nZ (E S:ag):List Nat→xQ
 | []=>[]
 | id::r=>match E.get id with
   | some _=>(id,S.get id)::nZ E S r
   | none=>nZ E S r
def n4 (lim:Nat):List Nat→List Nat
 | []=>[]
 | id::r=>match Nat.ble lim id with
   | true=>id::n4 lim r
   | false=>n4 lim r
def ka (a:Nat)(es:List (Nat×ag))(nx:Nat):List Nat→Bool
 | []=>true
 | id::r=>match Nat.ble nx id with
   | true=>ka a es nx r
   | false=>match uf a es id with
     | true=>ka a es nx r
     | false=>false
def Tl (i:Nat)(c:xQ)(km:List (Nat×K7)):List (Nat×K7):=
 match c with
 | []=>km
 | _=>(i,.WL c)::km
def BP (i:Nat)(E:Option ag)(es:List (Nat×ag)):List (Nat×ag):=
 match E with
 | some E=>(i,E)::es
 | none=>es
def rO.next (D:rO)(o:Oper)(os:List Oper)(a:Nat)(v:AV)(nx:Nat)(c:xQ)(E:Option ag):rO:=
 match D with
 | ⟨fn,F,⟨_,lim,m⟩,ops,_,i,dr,wm,sm,km,es⟩=>
   ⟨fn,Rk F o.dst v,⟨nx,lim,tU m c⟩,ops,os,Nat.succ i,(i,a)::dr,wm,sm,Tl i c km,BP i E es⟩
def zd (D:rO)(o:Oper)(os:List Oper)(b:Nat)(k:cG)(E:ag)(ids:List Nat)(BP:Option ag):Option de→Option St
 | some (.val v a)=>some (.fS (D.next o os b v a.nx (nZ E a ids++sk a E.nx (a.nx-E.nx)) BP) k)
 | some (.skip a)=>some (.fS (D.next o os b (.bO []) a.nx (nZ E a ids++sk a E.nx (a.nx-E.nx)) BP) k)
 | _=>none
def Fe (n:Nat):Option St→St
 | some s=>s
 | none=>.bad n
def af7 (P:Program)(D:rO)(o:Oper)(os:List Oper)(a:Nat)(k:cG)(nx:Nat)(ids:List Nat)(m:PT):Bool→St
 | true=>Fe 5 (zd D o os a k ⟨nx,D.S.lim,m⟩ ids (some ⟨nx,D.S.lim,m⟩) (DH P D.F.eval ⟨nx,D.S.lim,m⟩ o.op))
 | false=>.bad 4
def Zr (P:Program)(D:rO)(o:Oper)(os:List Oper)(a:Nat)(k:cG)(nx:Nat)(ids:List Nat)(m:PT):Option St→St
 | some s=>s
 | none=>af7 P D o os a k nx (n4 D.S.lim ids) m (ka a D.es nx (n4 D.S.lim ids))
def af8 (P:Program)(D:rO)(o:Oper)(os:List Oper)(a:Nat)(k:cG)(nx:Nat)(ids:List Nat)(m:PT):St:=
 Zr P D o os a k nx ids m (zd D o os a k ⟨nx,nx,m⟩ [] (some ⟨nx,nx,m⟩) (DH P D.F.eval ⟨nx,nx,m⟩ o.op))
def af9 (P:Program)(D:rO)(o:Oper)(os:List Oper)(a:Nat)(k:cG)(nx:Nat)(ids:List Nat):St:=
 af8 P D o os a k nx ids (seen D.S a D.km ids .nil)
def aga (P:Program)(D:rO)(o:Oper)(os:List Oper)(a:Nat)(k:cG):Option St→St
 | some s=>s
 | none=>af9 P D o os a k D.S.nx (iD D.F (iU o.op))
def agb (P:Program)(D:rO)(o:Oper)(os:List Oper)(a:Nat)(k:cG):Bool→St
 | true=>.bad 1
 | false=>aga P D o os a k (zd D o os a k ⟨D.S.nx,D.S.nx,.nil⟩ [] none (DH P D.F.eval ⟨D.S.nx,D.S.nx,.nil⟩ o.op))
def akA (P:Program)(D:rO)(o:Oper)(os:List Oper)(a:Nat)(k:cG):Option Bool→St
 | some false=>.fS (D.next o os a (.bO []) D.S.nx [] none) k
 | some true=>agb P D o os a k (cr o.op)
 | none=>.bad 6
def rY (T:FT)(F:ae)(c:Call)(P:Program):Option (Nat×BK×List AV):=
 match re F.eval c.args.toList with
 | some args=>match c.callee with
   | .value f=>match F.eval f with
     | some (.fn (.func g) first cap)=>match FT.look T g with
       | some e=>some (g,e,first++args++cap)
       | none=>none
     | some y=>match Jq P y args with
       | some (g,l)=>match FT.look T g with
         | some e=>some (g,e,l)
         | none=>none
       | none=>none
     | none=>none
   | .invoke r a=>match F.eval r with
     | some (.eu t v)=>match Jp P t a v with
       | some (g,b)=>match FT.look T g with
         | some e=>some (g,e,b::args)
         | none=>none
       | none=>none
     | _=>none
   | _=>none
 | none=>none
def asH : Op→Bool
 | .call c=>match c.callee with
   | .builtin _=>false
   | _=>true
 | _=>false
def zr (f:Nat)(e:BK)(args:List AV)(kind:CallKind)(cm:dq):ae:=ae.enter f e.fn.ntmps e.mask e.body args kind cm
def rO.TZ (D:rO)(o:Oper)(os:List Oper)(E:ag)(b:Nat)(bE:List Nat)(v:AV)(S:ag):rO:=
 match D,S with
 | ⟨fn,F,⟨a,lim,c⟩,ops,_,i,dr,wm,sm,km,es⟩,⟨nx,_,m⟩=>
   ⟨fn,Rk F o.dst v,⟨nx,lim,zq ⟨a,lim,c⟩ m bE⟩,ops,os,Nat.succ i,(i,b)::dr,wm,sm,(i,.wide lim nx)::km,(i,E)::es⟩
def Rm (E:ag)(lo:Nat)(v:AV):xQ:=
 match Nat.ble (E.nx-lo) 3 with
 | true=>sk E lo (E.nx-lo)
 | false=>mH E lo w7 [v] []
def rO.jN (D:rO)(o:Oper)(os:List Oper)(E:ag)(a:Nat)(bE:DM)(v:AV)(S:ag):rO:=
 match bE with
 | .quiet=>D.next o os a v S.nx (Rm S E.nx v) (some E)
 | .sep ids=>D.next o os a v S.nx (nZ E S ids++mH S E.nx w7 (v::kids S ids) []) (some E)
 | .wide bE=>D.TZ o os E a bE v S
def aef (T:FT)(f id:Nat):Nat:=
 match FT.look T f with
 | some e=>G3 e.wide id
 | none=>0
def back (r:gQ)(cm:dq)(S:ag):cG→St
 | .nil=>.done r S
 | .hole _=>.bad 61
 | .call fn F o all rest k next=>.run fn (Ly F o all rest k r) S next
 | .rN fn F ds next=>.run fn { F with defers:=ds,mode:=jP r cm } S next
 | .loop fn F d l k next=>.run fn (F.qE d l k r) S next
 | .round fn F o all rest k _ next=>match r with
   | .wI _=>.run fn (Ly F o all rest k r) S next
   | .ret _=>.bad 26
 | .fS D o os E a bE none next=>match r with
   | .ret v=>.fS (D.jN o os E a bE v S) next
   | .wI _=>.bad 9
 | .fS _ _ _ _ _ _ (some _) _=>.bad 39
def ajv (T:FT)(f id:Nat):Nat:=
 match FT.look T f with
 | some e=>G3 e.sep id
 | none=>0
def B3 (g:Nat)(e:BK)(args:List AV)(S:ag)(k:cG):St:=
 match e.ext with
 | none=>.run e.fn (zr g e args .normal .run) S k
 | some x=>match x args S with
   | some (v,a)=>back (.ret v) .run a k
   | none=>.run e.fn (zr g e args .normal .run) S k
def aac (T:FT)(P:Program)(D:rO)(o:Oper)(os:List Oper)(a:Nat)(k:cG):St:=
 match hidden a D.km,CZ a D.es with
 | some bE,true=>
   let E:ag:=⟨D.S.nx,D.S.lim,js D.S.m bE⟩
   match DH P D.F.eval E o.op with
   | some (.rV id args)=>match E.get id with
     | some (.lp _ _ f n mask env params assign body)=>match FT.look T f,Nat.beq args.length params.length with
       | some e,true=>.run e.fn (ue id f n mask env params assign body args) E (.fS D o os E a (.wide bE) (some id) k)
       | _,_=>.bad 40
     | _=>.bad 41
   | _=>.bad 7
 | _,_=>.bad 42
def Ol (D:rO)(o:Oper)(os:List Oper)(a:Nat)(k:cG)(g:Nat)(e:BK)(args:List AV)(c:xQ)(ids:List Nat):Bool→St
 | true=>B3 g e args ⟨D.S.nx,D.S.lim,tU .nil c⟩ (.fS D o os ⟨D.S.nx,D.S.lim,tU .nil c⟩ a (.sep ids) none k)
 | false=>.bad 45
def aeg (D:rO)(o:Oper)(os:List Oper)(a:Nat)(k:cG)(g:Nat)(e:BK)(args:List AV)(bE:List Nat):Bool→St
 | true=>let c:=B2 a D.km (mH D.S 0 w7 args [])
   Ol D o os a k g e args c (yT D.S.lim c) (ka a D.es D.S.nx (yT D.S.lim c))
 | false=>B3 g e args ⟨D.S.nx,D.S.nx,js D.S.m bE⟩ (.fS D o os ⟨D.S.nx,D.S.nx,js D.S.m bE⟩ a .quiet none k)
def Om (D:rO)(o:Oper)(os:List Oper)(a:Nat)(k:cG)(g:Nat)(e:BK)(args:List AV)(bE:List Nat):Bool→St
 | true=>B3 g e args ⟨D.S.nx,D.S.lim,js D.S.m bE⟩ (.fS D o os ⟨D.S.nx,D.S.lim,js D.S.m bE⟩ a (.wide bE) none k)
 | false=>.bad 22
def On (D:rO)(o:Oper)(os:List Oper)(a:Nat)(k:cG)(g:Nat)(e:BK)(args:List AV):Option (List Nat)→St
 | some bE=>match tb D.wm D.i with
   | true=>Om D o os a k g e args bE (CZ a D.es)
   | false=>aeg D o os a k g e args bE (tb D.sm D.i)
 | none=>.bad 23
def aeh (T:FT)(P:Program)(D:rO)(o:Oper)(os:List Oper)(a:Nat)(k:cG):Option (Nat×BK×List AV)→St
 | some (g,e,args)=>On D o os a k g e args (hidden a D.km)
 | none=>aac T P D o os a k
def Zs (T:FT)(P:Program)(D:rO)(o:Oper)(os:List Oper)(a:Nat)(k:cG)(c:Call):Option Bool→St
 | some false=>.fS (D.next o os a (.bO []) D.S.nx [] none) k
 | some true=>aeh T P D o os a k (rY T D.F c P)
 | none=>.bad 8
def aad (T:FT)(P:Program)(D:rO)(o:Oper)(os:List Oper)(a:Nat)(k:cG):Option Call→St
 | some c=>Zs T P D o os a k c (tf D.F D.ops o)
 | none=>akA P D o os a k (tf D.F D.ops o)
def gJ : Op→Option Call
 | .call c=>match c.callee with
   | .builtin _=>none
   | _=>some c
 | _=>none
def chain : List Oper→Nat→List (Nat×Nat)→Bool
 | [],_,_=>true
 | o::os,i,dr=>match Nat.beq (Nat.succ (ax dr o.after.toList)) (Nat.shiftLeft 1 i) with
   | true=>chain os (Nat.succ i) ((i,ax dr o.after.toList)::dr)
   | false=>false
def Oo (D:rO)(k:cG):St:=.run D.fn (lM D.F (.ops D.ops (List.range' D.i (D.ops.size-D.i))::D.F.todo)) D.S k
def behind : List Oper→Nat→Nat→List (Nat×Nat)→Bool
 | [],_,_,_=>true
 | o::os,a,i,dr=>match Nat.beq (Nat.land (ax dr o.after.toList) a) a with
   | true=>behind os a (Nat.succ i) ((i,ax dr o.after.toList)::dr)
   | false=>false
def Ij : List Oper→Nat→List (Nat×Nat)→Bool
 | [],_,_=>false
 | o::os,i,dr=>match Nat.beq (Nat.succ (ax dr o.after.toList)) (Nat.shiftLeft 1 i) with
   | true=>behind os (Nat.pred (Nat.shiftLeft 1 (Nat.succ i))) (Nat.succ i) ((i,ax dr o.after.toList)::dr)
   | false=>false
def agc (D:rO)(k:cG):St:=.run D.fn (lM D.F (.ops D.ops [D.i,D.ops.size,Nat.succ D.i,D.wm,D.sm]::D.F.todo)) D.S k
def Uv (T:FT)(P:Program)(D:rO)(o:Oper)(os:List Oper)(k:cG)(c:Call):Bool→St
 | true=>agc D k
 | false=>aad T P D o os (ax D.dr o.after.toList) k (some c)
def Uw (T:FT)(P:Program)(D:rO)(o:Oper)(os:List Oper)(k:cG)(c:Call):Bool→St
 | true=>Oo D k
 | false=>Uv T P D o os k c (Ij (o::os) D.i D.dr)
def age (T:FT)(P:Program)(D:rO)(o:Oper)(os:List Oper)(k:cG):Option Call→St
 | some c=>Uw T P D o os k c (chain (o::os) D.i D.dr)
 | none=>aad T P D o os (ax D.dr o.after.toList) k none
def T1 (T:FT)(P:Program)(D:rO)(k:cG):List Oper→St
 | []=>Oo D k
 | o::os=>age T P D o os k (gJ o.op)
def akB (T:FT)(fn:Func)(F:ae)(S:ag)(k:cG)(params:Array Tmp)(assign body:Code)(td:List bf):Option Nat→Option AV→St
 | none,some (.fn (.func g) first cap)=>match FT.look T g,Nat.ble (S.nx+2) 8192,Nat.ble S.lim S.nx with
   | some e,true,true=>.run e.fn (zr g e (first++[.rV (S.nx+1)]++cap) .normal .run) (F.Zp S params assign body) (.loop fn F S.nx (S.nx+1) td k)
   | _,_,_=>.bad 30
 | _,_=>.bad 31
def agf (fn:Func)(F:ae)(S:ag)(k:cG)(id:Nat)(td:List bf):Option aL→St
 | some (.lp st a f n mask env params assign body)=>match st == .busy,Nat.ble S.lim id with
   | false,true=>.run fn (Ii F (Oj a td)) (S.set id (.lp .exhausted a f n mask env params assign body)) k
   | _,_=>.bad 32
 | _=>.bad 33
def agh (fn:Func)(F:ae)(S:ag)(k:cG)(id:Nat)(td:List bf):Option aL→St
 | some (.lp .ready a f n mask env params assign body)=>match Nat.ble S.lim id with
   | true=>.run fn (lM F td) (S.set id (.lp .busy a f n mask env params assign body)) k
   | false=>.bad 34
 | _=>.bad 35
def Lz (S:ag)(k:cG)(v:AV):St:=
 match k with
 | .round a b o all rest td _ next=>.run a (Ly b o all rest td (.ret v)) S next
 | .fS D o os E c bE (some _) next=>.fS (D.jN o os E c bE v S) next
 | _=>.bad 38
def alJ (S:ag)(k:cG)(id f n mask:Nat)(env:List (Nat×AV))(params:List Tmp)(assign body:Code):List bf→Option Code→St
 | [],_=>Lz (S.set id (.lp .ready none f n mask env params assign body)) k (.sc (.bool true))
 | _,some c=>Lz (S.set id (.lp .done (some c) f n mask env params assign body)) k (.sc (.bool false))
 | _,none=>.bad 13
def agi (F:ae)(S:ag)(k:cG)(id:Nat):List gS→Option aL→Bool→St
 | [],some (.lp _ _ f n mask env params assign body),true=>alJ S k id f n mask env params assign body F.todo (CX F.todo)
 | _,_,_=>.bad 37
def mE : cG→Option Nat
 | .round _ _ _ _ _ _ id _=>some id
 | .fS _ _ _ _ _ _ (some id) _=>some id
 | _=>none
def T2 (F:ae)(S:ag)(k:cG):Option Nat→St
 | some id=>agi F S k id F.defers (S.get id) (Nat.ble S.lim id)
 | none=>.bad 38
def Zt (fn:Func)(F:ae)(S:ag)(k:cG)(td:List bf):Option Nat→St
 | some id=>agh fn F S k id td (S.get id)
 | none=>.bad 36
def ajw (T:FT)(fn:Func)(F:ae)(S:ag)(k:cG)(id:Nat)(all:Array Oper)(td:List bf):Bool→Bool→St
 | true,true=>.fS { fn:=fn,F:=Ii F td,S:=S,ops:=all,os:=all.toList,i:=0,dr:=[],wm:=aef T F.fn id,sm:=ajv T F.fn id,km:=[],es:=[] } k
 | _,_=>.bad 46
def aae (T:FT)(fn:Func)(F:ae)(S:ag)(k:cG)(id:Nat)(all:Array Oper)(td:List bf):St:=
 ajw T fn F S k id all td (CY all) (Nat.ble S.lim S.nx)
def T3 (T:FT)(fn:Func)(F:ae)(S:ag)(k:cG):List bf→St
 | .code (.rangeFunc f params assign body)::td=>akB T fn F S k params assign body td F.round (F.eval f)
 | .code (.region id all true)::td=>aae T fn F S k id all td
 | .nX id::td=>agf fn F S k id td (S.get id)
 | .NY::td=>Zt fn F S k td F.round
 | _=>T2 F S k (mE k)
def agj (fn:Func)(F:ae)(S:ag)(k:cG)(o:Oper)(all:Array Oper)(rest:List Nat)(td:List bf)(id f n mask:Nat)(env:List (Nat×AV))(params:List Tmp)(assign body:Code)(args:List AV):Option BK→Bool→St
 | some e,true=>.run e.fn (ue id f n mask env params assign body args) S (.round fn F o all rest td id k)
 | _,_=>.bad 28
def Zu (T:FT)(fn:Func)(F:ae)(S:ag)(k:cG)(o:Oper)(all:Array Oper)(rest:List Nat)(td:List bf)(id:Nat)(args:List AV):Option aL→St
 | some (.lp _ _ f n mask env params assign body)=>agj fn F S k o all rest td id f n mask env params assign body args (FT.look T f) (Nat.beq args.length params.length)
 | _=>.bad 29
def flat : cG→Bool
 | .nil=>true
 | .hole _=>true
 | .call _ _ _ _ _ _ n=>flat n
 | .rN _ _ _ n=>flat n
 | .loop _ _ _ _ _ n=>flat n
 | .round _ _ _ _ _ _ _ n=>flat n
 | .fS .. => false
def Ff (F:ae)(S:ag):Op→Option (List (AV×ag))
 | .next b false=>match F.eval b with
   | some a=>Fc S a
   | none=>none
 | _=>none
def T4 (F:ae)(o:Oper)(all:Array Oper)(rest:List Nat)(td:List bf):List (AV×ag)→List (ae×ag)
 | []=>[]
 | (v,S)::r=>(np F o v all rest td,S)::T4 F o all rest td r
def Ux (fn:Func)(F:ae)(k:cG)(o:Oper)(all:Array Oper)(rest:List Nat)(td:List bf)(l:List (AV×ag)):Bool→St
 | true=>.fork fn k (T4 F o all rest td l)
 | false=>.bad 48
def T5 (fn:Func)(F:ae)(k:cG)(o:Oper)(all:Array Oper)(rest:List Nat)(td:List bf):Option (List (AV×ag))→St
 | some [(v,S)]=>.run fn (np F o v all rest td) S k
 | some l=>Ux fn F k o all rest td l (flat k)
 | none=>.bad 18
def Tm (T:FT)(fn:Func)(F:ae)(S:ag)(k:cG)(o:Oper)(all:Array Oper)(rest:List Nat)(td:List bf):Option de→St
 | some (.val v a)=>.run fn (np F o v all rest td) a k
 | some (.skip a)=>.run fn (np F o (.bO []) all rest td) a k
 | some (.wI v)=>.run fn (TY F (.panicking [(v,false)])) S k
 | some (.rV id args)=>Zu T fn F S k o all rest td id args (S.get id)
 | none=>T5 fn F k o all rest td (Ff F S o.op)
 | _=>.bad 18
def aaf (fn:Func)(F:ae)(S:ag)(k:cG)(o:Oper)(all:Array Oper)(rest:List Nat)(td:List bf):Option (AV×dq)→St
 | some (v,cm)=>.run fn { np F o v all rest td with cm:=cm } S k
 | none=>.run fn (np F o (.sc .nilIface) all rest td) S k
def Qh (fn:Func)(F:ae)(S:ag)(k:cG)(o:Oper)(all:Array Oper)(rest:List Nat)(td:List bf):Option Nat→Option de→St
 | none,some (.rN f cap args)=>.run fn { np F o (.bO []) all rest td with defers:=.call f cap args::F.defers } S k
 | none,some .ae5=>match F.kind with
   | .deferred=>aaf fn F S k o all rest td (uM F.cm)
   | _=>.bad 20
 | _,_=>.bad 21
def afw (T:FT)(P:Program)(fn:Func)(F:ae)(S:ag)(k:cG)(o:Oper)(all:Array Oper)(rest:List Nat)(td:List bf):Bool→St
 | false=>Tm T fn F S k o all rest td (DH P F.eval S o.op)
 | true=>Qh fn F S k o all rest td F.round (DH P F.eval S o.op)
def agk (fn:Func)(F:ae)(S:ag)(k:cG)(o:Oper)(all:Array Oper)(rest:List Nat)(td:List bf)(g:Nat)(e:BK)(args:List AV):Option (AV×ag)→St
 | some (v,a)=>.run fn (np F o v all rest td) a k
 | none=>.run e.fn (zr g e args .normal .run) S (.call fn F o all rest td k)
def Uy (fn:Func)(F:ae)(S:ag)(k:cG)(o:Oper)(all:Array Oper)(rest:List Nat)(td:List bf)(g:Nat)(e:BK)(args:List AV):Option (List AV→ag→Option (AV×ag))→St
 | none=>.run e.fn (zr g e args .normal .run) S (.call fn F o all rest td k)
 | some x=>agk fn F S k o all rest td g e args (x args S)
def Zv (T:FT)(P:Program)(fn:Func)(F:ae)(S:ag)(k:cG)(o:Oper)(all:Array Oper)(rest:List Nat)(td:List bf):Option (Nat×BK×List AV)→St
 | some (g,e,args)=>Uy fn F S k o all rest td g e args e.ext
 | none=>afw T P fn F S k o all rest td false
def agl (T:FT)(P:Program)(fn:Func)(F:ae)(S:ag)(k:cG)(o:Oper)(all:Array Oper)(rest:List Nat)(td:List bf):Option Call→St
 | some c=>Zv T P fn F S k o all rest td (rY T F c P)
 | none=>afw T P fn F S k o all rest td (cr o.op)
def Oq (T:FT)(P:Program)(fn:Func)(F:ae)(S:ag)(k:cG)(o:Oper)(all:Array Oper)(rest:List Nat)(td:List bf):Option Bool→St
 | some true=>agl T P fn F S k o all rest td (gJ o.op)
 | some false=>.run fn (np F o (.bO []) all rest td) S k
 | none=>.bad 11
def fY : List Oper→Nat→List (Nat×Nat)→List (Nat×Nat)
 | [],_,dr=>dr
 | o::os,i,dr=>fY os (i+1) ((i,ax dr o.after.toList)::dr)
def Uz (fn:Func)(F:ae)(S:ag)(k:cG)(all:Array Oper)(td:List bf)(a wm sm:Nat):Bool→Bool→Bool→St
 | true,true,true=>.fS { fn:=fn,F:=lM F td,S:=S,ops:=all,os:=all.toList.drop a,i:=a,dr:=fY (all.toList.take a) 0 [],wm:=wm,sm:=sm,km:=[],es:=[] } k
 | _,_,_=>.bad 12
def T6 (fn:Func)(F:ae)(S:ag)(k:cG)(all:Array Oper)(td:List bf):List Nat→St
 | [a,wm,sm]=>Uz fn F S k all td a wm sm (CY all) (Nat.ble S.lim S.nx) (Nat.ble a all.size)
 | _=>.bad 12
def aag (T:FT)(P:Program)(fn:Func)(F:ae)(S:ag)(k:cG)(all:Array Oper)(rest:List Nat)(td:List bf):Option Oper→St
 | some o=>Oq T P fn F S k o all rest td (tf F all o)
 | none=>T6 fn F S k all td rest
def agm (T:FT)(fn:Func)(F:ae)(S:ag)(k:cG):Option ae→St
 | some F' => .run fn (WY 10 F') S k
 | none=>T3 T fn F S k F.todo
def alK (T:FT)(P:Program)(fn:Func)(F:ae)(S:ag)(k:cG):List bf→St
 | .ops all (i::rest)::td=>aag T P fn F S k all rest td (N4 all i)
 | td=>agm T fn F S k (Rl F td)
def agn (F:ae)(S:ag)(k:cG):Option AV→St
 | some v=>back (.ret v) F.cm S k
 | none=>.bad 14
def Zw (fn:Func)(F:ae)(S:ag)(k:cG)(id:Nat)(ds:List gS):Option aL→Bool→St
 | some (.df true),true=>.run fn { F with defers:=ds } (S.set id (.df false)) k
 | _,_=>.bad 27
def ago (fn:Func)(F:ae)(S:ag)(k:cG)(f:Nat)(cap args:List AV)(ds:List gS):Option BK→St
 | some e=>.run e.fn (zr f e (args++cap) .deferred F.mode) S (.rN fn F ds k)
 | none=>.bad 16
def WZ (P:Program)(fn:Func)(F:ae)(S:ag)(k:cG):dq→St
 | .returning=>agn F S k (uI P fn F S)
 | .panicking l=>back (.wI l) F.cm S k
 | .run=>.bad 15
def W0 (T:FT)(P:Program)(fn:Func)(F:ae)(S:ag)(k:cG):List gS→St
 | []=>WZ P fn F S k F.mode
 | .call f cap args::ds=>ago fn F S k f cap args ds (FT.look T f)
 | .mQ id::ds=>Zw fn F S k id ds (S.get id) (Nat.ble S.lim id)
 | .uC _::_=>.bad 73
def akC (T:FT)(P:Program)(fn:Func)(F:ae)(S:ag)(k:cG):dq→St
 | .run=>alK T P fn F S k F.todo
 | _=>W0 T P fn F S k F.defers
def St.step (T:FT)(P:Program):St→St
 | .run fn F S k=>akC T P fn F S k F.mode
 | .fS D k=>T1 T P D k D.os
 | s=>s
def St.rep (T:FT)(P:Program):Nat→St→St
 | 0,s=>s.step T P
 | d+1,s=>match St.rep T P d s with
   | .run fn F S k=>St.rep T P d (.run fn F S k)
   | .fS D k=>St.rep T P d (.fS D k)
   | s=>s
def T7 (fn:Func)(k:cG):List (ae×ag)→List St
 | []=>[]
 | (F,S)::r=>.run fn F S k::T7 fn k r
def St.outs (T:FT)(P:Program)(d:Nat):Nat→List St→Option (List (AV×ag))
 | 0,_=>none
 | _+1,[]=>some []
 | n+1,s::r=>match St.rep T P d s with
   | .done (.ret v) S=>match St.outs T P d n r with
     | some l=>some ((v,S)::l)
     | none=>none
   | .fork fn k l=>St.outs T P d n (T7 fn k l++r)
   | _=>none
def St.start (T:FT)(f:Nat)(args:List AV)(S:ag):St:=
 match FT.look T f with
 | some e=>.run e.fn (zr f e args .normal .run) S .nil
 | none=>.bad 0
end
end Go.Eng

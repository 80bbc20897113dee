/- The operations on maps and strings, and the meaning of each operation; no conditions. -/
import Derived.Test.YtnangdjonghnaaaGreatVEngA
import Derived.Orders
namespace Go.Eng
noncomputable section
inductive cY where
 | val (v : AV) (S : af)
 | skip (S : af)
 | call (f : FuncId) (args : List AV)
 | pq (id : Nat) (args : List AV)
 | qT (f : FuncId) (cap args : List AV)
 | Yg
 | uh (v : AV)
def qA (ρ:Operand→Option AV):List Operand→Option (List AV)
 | []=>some []
 | x::r=>match ρ x with
   | some v=>match qA ρ r with
     | some l=>some (v::l)
     | none=>none
   | none=>none
def um (ρ:Operand→Option AV):List (Nat×Operand)→Option (List (Nat×AV))
 | []=>some []
 | (i,x)::r=>match ρ x with
   | some v=>match um ρ r with
     | some l=>some ((i,v)::l)
     | none=>none
   | none=>none
def EL (g:Gh)(ρ:Operand→Option AV)(ρ' : Operand→Value):Prop:=∀ x v,ρ x=some v→VR g v (ρ' x)
variable {g : Gh} {ρ : Operand → Option AV} {ρ' : Operand → Value}
theorem so (h:EL g ρ ρ'):∀ {l:List Operand} {b:List AV},qA ρ l=some b→fG g b (l.map ρ').toArray:=by
 intro l
 induction l with
 | nil=>intro b e;simp only[qA,ar] at e;subst e;exact fG.nil g
 | cons x r d=>
   intro b e
   simp only[qA] at e
   split at e<;>try (simp at e;done)
   rename_i v i
   split at e<;>simp only[ar,reduceCtorEq] at e
   rename_i l' j
   subst e
   exact fG.cons (h x v i) (d j)
theorem yE (h:EL g ρ ρ'):∀ {l:List (Nat×Operand)} {b:List (Nat×AV)},um ρ l=some b→uu g b (l.map fun p=>(p.1,ρ' p.2)):=by
 intro l
 induction l with
 | nil=>intro b e;simp only[um,ar] at e;subst e;exact .nil
 | cons p r d=>
   obtain⟨i,x⟩:=p
   intro b e
   simp only[um] at e
   split at e<;>try (simp at e;done)
   rename_i v j
   split at e<;>simp only[ar,reduceCtorEq] at e
   rename_i l' k
   subst e
   exact .cons (h x v j) (d k)
def mJ (P : Program) (f : FuncId) : Bool :=
 match P.funcs[f]? with
 | some fn => match fn.body with
   | some _ => !(fn.name == "runtime.NumGoroutine")
   | none => false
 | none => false
variable {P : Program} {w : World} {f : FuncId} {xs : Array Value}
theorem mj (h:mJ P f=true):(callFunc f xs).run P w=.ok (.enter f xs) w:=by
 unfold mJ at h
 split at h<;>try (simp at h;done)
 rename_i fn d
 split at h<;>try (simp at h;done)
 rename_i b e
 simp only[Bool.not_eq_true'] at h
 simp only[callFunc,Sem.run_bind,run_program,Result.andThen_ok,d]
 rw[if_neg (by rw[h];simp)]
 simp[e]
def tr (P:Program)(t:TypeId)(name:String):Option FuncId:=
 match P.info? t with
 | some i=>match i.methods.find? (·.name==name) with
   | some m=>match m.path.toList,m.func,P.underlying t with
     | [],some (f,true),some (.pointer _)=>some f
     | [],some (_,false),some (.pointer _)=>none
     | [],some (f,false),some _=>some f
     | _,_,_=>none
   | none=>none
 | none=>none
variable {t : TypeId} {name : String} {n : Nat}
theorem AP {v:Value}(h:tr P t name=some f):(method (n+1) t v name).run P w=.ok (f,v) w:=by
 unfold tr at h
 split at h<;>try (simp at h;done)
 rename_i i hi
 split at h<;>try (simp at h;done)
 rename_i m r
 have b:∀ {l:List FieldStep},m.path.toList=l→m.path=l.toArray:=fun e=>by rw[←e]
 split at h<;>simp only[ar,reduceCtorEq] at h
 · rename_i a e j k p
   subst h
   simp[method,cZ hi,r,b j,follow,k,receiverAt,ag p,Place.get]
 · rename_i a d q j k p
   subst h
   simp only[method,Sem.run_bind,cZ hi,Result.andThen_ok,r,j,follow,Sem.run_pure,k,receiverAt,ag p]
   cases d<;>first | exact(q _ rfl).elim | simp[Place.get]
variable {ty : TypeId} {ts : List TypeId} {a : Option Addr} {c c' : Nat}
theorem O2 : Builtin.len_ (t::ts).toArray ty #[.slice a n c]=Builtin.len_ (t::ts).toArray ty #[.slice a n c']:=by
 unfold Builtin.len_
 simp only[List.getElem?_toArray,List.getElem?_cons_zero]
 congr 1
 funext u
 cases u<;>rfl
theorem JL {b:Value}:Instr.indexAt t (.slice a n c) b=Instr.indexAt t (.slice a n c') b:=by
 unfold Instr.indexAt
 congr 1
 funext p
 obtain⟨k,i⟩:=p
 dsimp only
 congr 1
 funext u
 cases u<;>rfl
variable {S : af} {y : Value}
theorem Ek (hi:Inv S g w){x:AV}(h:yn P S t x.pX=some n)(b:VR g x y) :
  (Builtin.len_ (t::ts).toArray ty #[y]).run P w=.ok (.int .i64 n) w:=by
 rcases b.pX with k | ⟨a,m,c,rfl,k⟩
 · exact yD hi h k
 · rw[O2 (c' := c)];exact yD hi h k
variable {x : Value}
theorem ye (hi:Inv S g w){a d r:AV}(h:dG P S t a.pX d=some r)(e:VR g a x)(hx:VR g d y) :
  ∃ z,(Instr.indexAt t x y).run P w=.ok z w∧VR g r z:=by
 rcases e.pX with k | ⟨b,m,c,rfl,k⟩
 · exact su hi h k hx
 · rw[JL (c' := c)];exact su hi h k hx
def Fk (P:Program):List FieldStep→TypeId→AV→Option (TypeId×AV)
 | [],t,a=>some (t,a)
 | s::r,_,a=>match s.deref,P.underlying s.struct with
   | false,some (.struct fs)=>match nth fs.toList s.index,a with
     | some d,.agg cs=>match Au P d.type cs d.offset with
       | some b=>Fk P r d.type b
       | none=>none
     | _,_=>none
   | _,_=>none
theorem O3 : ∀ {l:List FieldStep} {t:TypeId} {a b:AV} {xt:TypeId} {x:Value},Fk P l t a=some (xt,b)→VR g a x→∃ y,(follow l t (.val x)).run P w=.ok (xt,.val y) w∧VR g b y:=by
 intro l
 induction l with
 | nil=>
   intro t a b xt x h i
   simp only[Fk,ar,iy] at h
   obtain⟨rfl,rfl⟩:=h
   exact⟨x,rfl,i⟩
 | cons s r m=>
   intro t a b xt x h i
   simp only[Fk] at h
   split at h<;>try (simp at h;done)
   rename_i fs p q
   split at h<;>try (simp at h;done)
   rename_i d cs k
   split at h<;>try (simp at h;done)
   rename_i D u
   rw[iB] at k
   have j:fs[s.index]? = some d:=by simpa using k
   cases i with
   | agg v hh=>
     obtain⟨z,e,A⟩:=tE (P:=P) (w:=w) u ⟨v,hh⟩
     obtain⟨y,B,C⟩:=m h A
     refine⟨y,?_,C⟩
     simp only[follow,Sem.run_bind,ag q,Result.andThen_ok,j,p,Bool.false_eq_true,if_false,e,B]
def L5 (P:Program)(t:TypeId)(name:String)(v:AV):Option (FuncId×AV):=
 match P.info? t with
 | some i=>match i.methods.find? (·.name==name) with
   | some m=>match m.func,Fk P m.path.toList t v with
     | some (f,false),some (xt,b)=>match P.underlying xt with
       | some (.pointer _)=>none
       | some _=>some (f,b)
       | none=>none
     | _,_=>none
   | none=>none
 | none=>none
def DG (P:Program)(t:TypeId)(name:String)(v:AV):Option (FuncId×AV):=
 match tr P t name with
 | some f=>some (f,v)
 | none=>L5 P t name v
theorem My {a b:AV}(h:DG P t name a=some (f,b))(l:VR g a x):∃ y,(method (n+1) t x name).run P w=.ok (f,y) w∧VR g b y:=by
 unfold DG at h
 split at h
 · rename_i p j
   simp only[ar,iy] at h
   obtain⟨rfl,rfl⟩:=h
   exact⟨x,AP j,l⟩
 · unfold L5 at h
   split at h<;>try (simp at h;done)
   rename_i i hi
   split at h<;>try (simp at h;done)
   rename_i m j
   split at h<;>try (simp at h;done)
   rename_i p xt v q r
   obtain⟨y,e,s⟩:=O3 (w:=w) r l
   split at h<;>simp only[ar,iy,reduceCtorEq] at h
   rename_i d k u
   obtain⟨rfl,rfl⟩:=h
   refine⟨y,?_,s⟩
   simp only[method,Sem.run_bind,cZ hi,Result.andThen_ok,j,e,q,receiverAt,ag u]
   cases d<;>first | exact(k _ rfl).elim | simp[Place.get]
theorem El {v:Value}(h:tr P t name=some f):(nilAhead (n+1) t v name).run P w=.ok (some false) w:=by
 unfold tr at h
 split at h<;>try (simp at h;done)
 rename_i i hi
 split at h<;>try (simp at h;done)
 rename_i m l
 split at h<;>simp only[ar,reduceCtorEq] at h
 · rename_i a e b j p
   simp only[nilAhead,Sem.run_bind,cZ hi,Result.andThen_ok,l,b,followBlind,Sem.run_pure,j]
 · rename_i a d k b j p
   simp only[nilAhead,Sem.run_bind,cZ hi,Result.andThen_ok,l,b,followBlind,Sem.run_pure,j,ag p]
   cases d<;>first | exact(k _ rfl).elim | rfl
def DH (P:Program)(y:AV)(args:List AV):Option (Nat×List AV):=
 match y with
 | .fn (.method name) (.fq t v::first) _=>match tr P t name with
   | some g=>match mJ P g with
     | true=>some (g,v::(first++args))
     | false=>none
   | none=>none
 | _=>none
def Iy (P:Program)(y:AV):Bool:=
 match y with
 | .fn (.method name) (.fq t _::_) _=>(tr P t name).isSome
 | _=>false
variable {args : List AV}
theorem yH {y:AV}{l:List AV}{g:Nat}(h:DH P y args=some (g,l)):∃ name t v first cap,y=.fn (.method name) (.fq t v::first) cap∧tr P t name=some g∧mJ P g=true∧l=v::(first++args):=by
 unfold DH at h
 split at h<;>try (simp at h;done)
 split at h<;>try (simp at h;done)
 rename_i b
 split at h<;>simp only[ar,iy,reduceCtorEq] at h
 rename_i d
 obtain⟨rfl,rfl⟩:=h
 exact⟨_,_,_,_,_,rfl,b,d,rfl⟩
theorem HA {y:AV}(h:Iy P y=true):∃ name t v first cap g,y=.fn (.method name) (.fq t v::first) cap∧tr P t name=some g:=by
 unfold Iy at h
 split at h<;>try (simp at h;done)
 obtain⟨g,b⟩:=Option.isSome_iff_exists.1 h
 exact⟨_,_,_,_,_,g,rfl,b⟩
def gl (P:Program)(S:af)(b:Builtin)(ts:List TypeId)(args:List AV):Option cY:=
 match b,args with
 | .append,[s,x]=>match kC P S ts s x with
   | some (v,e)=>some (.val v e)
   | none=>match zQ P S ts s x with
     | some (v,e)=>some (.val v e)
     | none=>none
 | .len,[x]=>match ts with
   | t::_=>match yn P S t x.pX with
     | some n=>some (.val (.sc (.int .i64 n)) S)
     | none=>none
   | []=>none
 | .cap,[x]=>match ts with
   | t::_=>match LH P t x with
     | some n=>some (.val (.sc (.int .i64 n)) S)
     | none=>none
   | []=>none
 | .copy,[d,x]=>match DF P S ts d x with
   | some (n,e)=>some (.val (.sc (.int .i64 n)) e)
   | none=>none
 | .max,_=>match CC true args with
   | some v=>some (.val v S)
   | none=>none
 | .min,_=>match CC false args with
   | some v=>some (.val v S)
   | none=>none
 | .panic,[.fq t v]=>some (.uh (.fq t v))
 | .clear,[x]=>match DZ P S ts x with
   | some e=>some (.val (.bm []) e)
   | none=>none
 | .recover,[]=>some .Yg
 | _,_=>none
def uv (P:Program)(ρ:Operand→Option AV)(S:af)(c:Call):Option cY:=
 match qA ρ c.args.toList with
 | some args=>match c.callee with
   | .builtin b=>gl P S b c.argTypes.toList args
   | .invoke r name=>match ρ r with
     | some (.fq t v)=>match DG P t name v with
       | some (f,b)=>match mJ P f with
         | true=>some (.call f (b::args))
         | false=>none
       | none=>none
     | _=>none
   | .value f=>match ρ f with
     | some (.fn (.func g) first cap)=>match mJ P g with
       | true=>some (.call g (first++args++cap))
       | false=>none
     | some (.pq id)=>some (.pq id args)
     | some y=>match DH P y args with
       | some (g,l)=>some (.call g l)
       | none=>none
     | none=>none
 | none=>none
def j3 (S:af):Option AV→Option cY
 | some v=>some (.val v S)
 | none=>none
def yl : Option (AV×af)→Option cY
 | some (v,S)=>some (.val v S)
 | none=>none
def Cx : Option af→Option cY
 | some S=>some (.skip S)
 | none=>none
def sU : Operand→Bool
 | .const _=>true
 | _=>false
def gi (P:Program)(ρ:Operand→Option AV)(S:af)(o:Op):Option cY:=
 match o with
 | .move x=>j3 S (ρ x)
 | .assign x=>j3 S (ρ x)
 | .pick c a b=>match ρ c with
   | some (.sc (.bool true))=>j3 S (ρ a)
   | some (.sc (.bool false))=>j3 S (ρ b)
   | _=>none
 | .alloc t=>match iC P t with
   | some z=>yl (CB S z)
   | none=>none
 | .box _ x=>match ρ x with
   | some v=>yl (CB S v)
   | none=>none
 | .build t q=>match um ρ q.toList with
   | some l=>j3 S (zP P t l)
   | none=>none
 | .buildSlice t n q=>match um ρ q.toList with
   | some l=>yl (nD P S t n l)
   | none=>none
 | .load t a=>match ρ a with
   | some p=>match jN S p with
     | some cs=>j3 S (mI P t cs)
     | none=>none
   | none=>none
 | .store t a x=>match ρ a,ρ x with
   | some p,some v=>Cx (sf P S t p v)
   | _,_=>none
 | .nilCheck x=>match ρ x with
   | some (.ptr id i j)=>some (.val (.ptr id i j) S)
   | some (.eV cs)=>some (.val (.eV cs) S)
   | some (.fn (.func f) a b)=>some (.val (.fn (.func f) a b) S)
   | some (.pq id)=>some (.val (.pq id) S)
   | some (.fq t v)=>some (.val (.fq t v) S)
   | some y=>match Iy P y with
     | true=>some (.val y S)
     | false=>none
   | none=>none
 | .binOp op t x y _=>match ρ x,ρ y with
   | some (.sc .nilIface),some (.sc .nilIface)=>match P.underlying t with
     | some (.interface _)=>match sU x||sU y with
       | true=>j3 S (ni op true)
       | false=>none
     | _=>none
   | some a,some b=>j3 S (sQ P op t a b)
   | _,_=>none
 | .unOp op _ x=>match ρ x with
   | some a=>j3 S (K2 op a)
   | none=>none
 | .convert s d x=>match ρ x with
   | some a=>j3 S (As P s d a)
   | none=>none
 | .makeInterface t x=>match P.underlying t,ρ x with
   | some (.interface _),_=>none
   | some _,some v=>some (.val (.fq t v) S)
   | _,_=>none
 | .makeFunc f a b=>match qA ρ a.toList,qA ρ b.toList with
   | some x,some y=>some (.val (.fn f x y) S)
   | _,_=>none
 | .makeMap _ none=>yl (uW S)
 | .makeSlice t l c=>match ρ l,ρ c with
   | some x,some y=>yl (mZ P S t x y)
   | _,_=>none
 | .slice t x lo hi none=>match ρ x,(match lo with
     | none=>some none
     | some a=>match ρ a with
       | some v=>some (some v)
       | none=>none),(match hi with
     | none=>some none
     | some a=>match ρ a with
       | some v=>some (some v)
       | none=>none) with
   | some a,some l,some h=>j3 S (kU P S t a l h)
   | _,_,_=>none
 | .slice t x none (some hi) (some r)=>match ρ x,ρ hi,ρ r with
   | some a,some h,some m=>j3 S (xP P t a h m)
   | _,_,_=>none
 | .slice t x (some lo) (some hi) (some r)=>match ρ x,ρ lo,ρ hi,ρ r with
   | some a,some l,some h,some m=>j3 S (Iw P t a l h m)
   | _,_,_,_=>none
 | .fieldAddr s x f=>match ρ x with
   | some a=>j3 S (sl P s a f)
   | none=>none
 | .field t x f=>match ρ x with
   | some a=>j3 S (zO P t a f)
   | none=>none
 | .indexAddr t x e=>match ρ x,ρ e with
   | some a,some b=>j3 S (dG P S t a.pX b)
   | _,_=>none
 | .index t x e=>match ρ x,ρ e with
   | some a,some b=>j3 S (uO P t a b)
   | _,_=>none
 | .lookup t x e ok=>match ρ x,ρ e with
   | some a,some b=>j3 S (iD P S t a b ok)
   | _,_=>none
 | .mapUpdate t m k x=>match ρ m,ρ k,ρ x with
   | some a,some b,some c=>Cx (lh P S t a b c)
   | _,_,_=>none
 | .insert t m k x=>match ρ m,ρ k,ρ x with
   | some a,some b,some c=>Cx (lh P S t a b c)
   | _,_,_=>none
 | .range t x=>match ρ x with
   | some a=>yl (uP P S t a)
   | none=>none
 | .next u s=>match ρ u with
   | some a=>yl (vL S a s)
   | none=>none
 | .entry u=>match ρ u with
   | some a=>j3 S (zR S a)
   | none=>none
 | .typeAssert x _ t ok=>match ρ x with
   | some a=>j3 S (wZ P t a ok)
   | none=>none
 | .extract t e=>match ρ t with
   | some (.bm A)=>j3 S (nth A e)
   | _=>none
 | .call c=>uv P ρ S c
 | .defer c=>match qA ρ c.args.toList with
   | some args=>match c.callee with
     | .value f=>match ρ f with
       | some (.fn (.func g) first cap)=>match mJ P g with
         | true=>some (.qT g cap (first++args))
         | false=>none
       | _=>none
     | _=>none
   | none=>none
 | .panic x=>match ρ x with
   | some (.fq t v)=>some (.uh (.fq t v))
   | _=>none
 | _=>none
def ko (P:Program)(ρ' : Operand→Value)(S:af)(g:Gh)(w:World)(o:Oper):cY→Prop
 | .val v b=>∃ x w' g', (execOp ρ' o).run P w=.ok (.value x) w' ∧ VR g' v x∧Inv b g' w' ∧ Ext S g w b g' w'
 | .skip b=>∃ w' g', (execOp ρ' o).run P w=.ok .skip w' ∧ Inv b g' w' ∧ Ext S g w b g' w'
 | .call f args=>∃ xs,(execOp ρ' o).run P w=.ok (.enter f xs) w∧fG g args xs
 | .pq id args=>∃ l xs,g.ph id=some l∧(execOp ρ' o).run P w=(Instr.yield l.cd xs).run P w∧fG g args xs
 | .qT f cap args=>∃ ys xs,(execOp ρ' o).run P w=.ok (.defer { target:=.fn (.func f) ys,args:=xs }) w∧fG g cap ys∧fG g args xs∧mJ P f=true
 | .Yg=>(execOp ρ' o).run P w=.ok .recover w
 | .uh v=>∃ x,(execOp ρ' o).run P w=.halt (.panic x) w∧VR g v x
section
variable {P : Program} {ρ' : Operand → Value} {S : af} {g : Gh} {w : World} {o : Oper}
theorem ko.v {r:Option AV}{res:cY}(hi:Inv S g w)(h:j3 S r=some res)(hx:∀ v,r=some v→∃ x,(execOp ρ' o).run P w=.ok (.value x) w∧VR g v x):ko P ρ' S g w o res:=by
 cases r with
 | none=>simp[j3] at h
 | some v=>
   simp only[j3,ar] at h;subst h
   obtain⟨x,e,b⟩:=hx v rfl
   exact⟨x,w,g,e,b,hi,Ext.refl _ _ _⟩
theorem ko.p {r:Option (AV×af)}{res:cY}(h:yl r=some res)(hx:∀ v b,r=some (v,b)→∃ x w' g', (execOp ρ' o).run P w=.ok (.value x) w' ∧ VR g' v x∧Inv b g' w' ∧ Ext S g w b g' w'):ko P ρ' S g w o res:=by
 cases r with
 | none=>simp[yl] at h
 | some p=>
   obtain⟨v,b⟩:=p
   simp only[yl,ar] at h;subst h
   exact hx v b rfl
variable {res : cY}
theorem ko.s {r:Option af}(h:Cx r=some res)(hx:∀ b,r=some b→∃ w' g', (execOp ρ' o).run P w=.ok .skip w' ∧ Inv b g' w' ∧ Ext S g w b g' w'):ko P ρ' S g w o res:=by
 cases r with
 | none=>simp[Cx] at h
 | some b=>
   simp only[Cx,ar] at h;subst h
   exact hx b rfl
end
variable {res : cY}
theorem zl (hi:Inv S g w){b:Builtin}{cs:Array Bool}{o:Oper}(h:gl P S b ts args=some res)(p:fG g args xs)(m:∀ w', (execOp ρ' o).run P w' = (builtin b ts.toArray ty cs xs).run P w'):ko P ρ' S g w o res:=by
 have two:∀ {a b:AV},args=[a,b]→∃ x y,xs = #[x,y]∧VR g a x∧VR g b y:=by
   intro a b e
   subst e
   obtain⟨x,u,h1⟩:=p.get (k:=0) rfl
   obtain⟨y,C,h2⟩:=p.get (k:=1) rfl
   refine⟨x,y,?_,h1,h2⟩
   apply Array.ext'
   apply List.ext_getElem?;intro k
   match k with
   | 0=>simpa using u
   | 1=>simpa using C
   | k+2=>rw[List.getElem?_eq_none (by have:=p.1;simp at this ⊢;omega)];simp
 have one:∀ {a:AV},args=[a]→∃ x,xs = #[x]∧VR g a x:=by
   intro a e
   subst e
   obtain⟨x,u,h1⟩:=p.get (k:=0) rfl
   refine⟨x,?_,h1⟩
   apply Array.ext'
   apply List.ext_getElem?;intro k
   match k with
   | 0=>simpa using u
   | k+1=>rw[List.getElem?_eq_none (by have:=p.1;simp at this ⊢;omega)];simp
 unfold gl at h
 split at h<;>try (simp at h;done)
 · rename_i s x
   obtain⟨sv,r,rfl,h1,h2⟩:=two rfl
   split at h
   · rename_i v A i
     simp only[ar] at h
     subst h
     obtain⟨z,w', g', j,l,q,B⟩:=Bb (P:=P) (t:=ty) hi i h1 h2
     exact⟨z,w', g', by rw[m];simp[builtin,j],l,q,B⟩
   · split at h<;>simp only[ar,reduceCtorEq] at h
     rename_i v A i
     subst h
     obtain⟨z,w', g', j,l,q,B⟩:=BX (P:=P) (t:=ty) hi i h1 h2
     exact⟨z,w', g', by rw[m];simp[builtin,j],l,q,B⟩
 · rename_i x
   obtain⟨r,rfl,h1⟩:=one rfl
   split at h<;>try (simp at h;done)
   rename_i t ts
   split at h<;>simp only[ar,reduceCtorEq] at h
   rename_i n i
   subst h
   exact⟨_,w,g,by rw[m];simp[builtin,Ek (P:=P) (ty:=ty) (ts:=ts) hi i h1],.sc rfl,hi,Ext.refl _ _ _⟩
 · rename_i x
   obtain⟨r,rfl,h1⟩:=one rfl
   split at h<;>try (simp at h;done)
   rename_i t ts
   split at h<;>simp only[ar,reduceCtorEq] at h
   rename_i n i
   subst h
   exact⟨_,w,g,by rw[m];simp[builtin,F9 (P:=P) (w:=w) (ty:=ty) (ts:=ts) i h1],.sc rfl,hi,Ext.refl _ _ _⟩
 · rename_i d x
   obtain⟨D,r,rfl,h1,h2⟩:=two rfl
   split at h<;>simp only[ar,reduceCtorEq] at h
   rename_i n A i
   subst h
   obtain⟨w', j,l,q⟩:=Ei (P:=P) (t:=ty) hi i h1 h2
   exact⟨_,w', g,by rw[m];simp[builtin,j],.sc rfl,l,q⟩
 · split at h<;>simp only[ar,reduceCtorEq] at h
   rename_i v i
   subst h
   obtain⟨z,j,l⟩:=Ga (P:=P) (w:=w) (ts:=ts.toArray) (t:=ty) i p
   exact⟨z,w,g,by rw[m];simp[builtin,j],l,hi,Ext.refl _ _ _⟩
 · split at h<;>simp only[ar,reduceCtorEq] at h
   rename_i v i
   subst h
   obtain⟨z,j,l⟩:=Gb (P:=P) (w:=w) (ts:=ts.toArray) (t:=ty) i p
   exact⟨z,w,g,by rw[m];simp[builtin,j],l,hi,Ext.refl _ _ _⟩
 · rename_i t v
   obtain⟨r,rfl,h1⟩:=one rfl
   simp only[ar] at h;subst h
   cases h1 with
   | fq h1=>exact⟨_,by rw[m];simp[builtin,Instr.panic],.fq h1⟩
 · rename_i x
   obtain⟨r,rfl,h1⟩:=one rfl
   split at h<;>simp only[ar,reduceCtorEq] at h
   rename_i A i
   subst h
   obtain⟨w', j,l,q⟩:=BZ (P:=P) (ty:=ty) hi i h1
   exact⟨.tuple #[],w', g,by rw[m];simp[builtin,j],.bm (xs := #[]) rfl (fun k a x e=>by simp at e),l,q⟩
 · simp only[ar] at h;subst h
   show(execOp ρ' o).run P w=_
   rw[m];simp[builtin]
end
end Go.Eng
namespace Go.Eng
noncomputable section
theorem jR {P:Program}{ρ:Operand→Option AV}{j:Operand→Value}{S:af}{g:Gh}{w:World}{o:Oper}{res:cY}(hi:Inv S g w)(i:EL g ρ j)(h:gi P ρ S o.op=some res):ko P j S g w o res:=by
 obtain⟨dst,op,ty,pos,after,guard⟩:=o
 simp only at h
 cases op with
 | move x=>exact ko.v hi h fun v e=>⟨j x,by simp[execOp],i x v e⟩
 | assign x=>exact ko.v hi h fun v e=>⟨j x,by simp[execOp],i x v e⟩
 | pick c a b=>
   simp only[gi] at h
   split at h<;>try (simp at h;done)
   · rename_i E
     have L:=i c _ E
     generalize hx:j c=xc at L
     cases L with | sc _=>exact ko.v hi h fun v e=>⟨j a,by simp[execOp,hx,asBool],i a v e⟩
   · rename_i E
     have L:=i c _ E
     generalize hx:j c=xc at L
     cases L with | sc _=>exact ko.v hi h fun v e=>⟨j b,by simp[execOp,hx,asBool],i b v e⟩
 | alloc t=>
   simp only[gi] at h
   split at h<;>try (simp at h;done)
   rename_i z hz
   obtain⟨zc,hzr,hzv⟩:=jk (P:=P) (w:=w) (g:=g) hz
   refine ko.p h fun v O e=>?_
   obtain⟨a,w', g', u,A,F,I⟩:=yz (P:=P) (t:=t) hi e hzv
   exact⟨_,w', g', by simp[execOp,Instr.alloc,hzr,u],A,F,I⟩
 | box t x=>
   simp only[gi] at h
   split at h<;>try (simp at h;done)
   rename_i v0 hx
   refine ko.p h fun v O e=>?_
   obtain⟨a,w', g', u,A,F,I⟩:=yz (P:=P) (t:=t) hi e (i x v0 hx)
   exact⟨_,w', g', by simp[execOp,Instr.box,u],A,F,I⟩
 | build t ps=>
   simp only[gi] at h
   split at h<;>try (simp at h;done)
   rename_i l K
   refine ko.v hi h fun v e=>?_
   obtain⟨z,u,A⟩:=BW (P:=P) (w:=w) (g:=g) (xs:=ps.map fun p=>(p.1,j p.2)) e (by simpa using yE i K)
   exact⟨z,by simp only[execOp,Sem.run_bind];rw[u];simp,A⟩
 | buildSlice t n ps=>
   simp only[gi] at h
   split at h<;>try (simp at h;done)
   rename_i l K
   refine ko.p h fun v O e=>?_
   obtain⟨z,w', g', u,A,F,I⟩:=we (P:=P) hi (xs:=ps.map fun p=>(p.1,j p.2)) e (by simpa using yE i K)
   exact⟨z,w', g', by simp only[execOp,Sem.run_bind];rw[u];simp,A,F,I⟩
 | load t a=>
   simp only[gi] at h
   split at h<;>try (simp at h;done)
   rename_i p hp
   split at h<;>try (simp at h;done)
   rename_i cs hcs
   refine ko.v hi h fun v e=>?_
   obtain⟨y,u,A⟩:=xi (P:=P) hi hcs e (i a p hp)
   exact⟨y,by simp[execOp,u],A⟩
 | store t a x=>
   simp only[gi] at h
   split at h<;>try (simp at h;done)
   rename_i p v hp C
   refine ko.s h fun O e=>?_
   obtain⟨w', u,A,F⟩:=BR (P:=P) hi e (i a p hp) (i x v C)
   exact⟨w', g,by simp[execOp,u],A,F⟩
 | nilCheck x=>
   simp only[gi] at h
   split at h
   case h_7=>simp at h
   case h_6 y _ _ _ _ _ hx=>
     split at h<;>simp only[ar,reduceCtorEq] at h
     rename_i J
     subst h
     have C:=i x _ hx
     refine⟨j x,w,g,?_,C,hi,Ext.refl _ _ _⟩
     obtain⟨T,t,v,first,cap,gf,rfl,Y⟩:=HA J
     generalize D:j x=y at C
     cases C with
     | fn Q Z R q4=>
       rename_i xs ys
       have H:0<xs.size:=by rw[←Q];simp
       have h0:xs[0]? = some xs[0]:=Bx H
       have M:=R 0 (.fq t v) _ rfl h0
       generalize hz:xs[0]=z at M h0
       cases M with
       | fq _=>
         have hn:P.types.size+Made.depth=(P.types.size+(Made.depth-1))+1:=by
           have:1≤Made.depth:=by decide
           omega
         simp only[execOp,D,h0,Sem.run_bind,run_program,Result.andThen_ok,hn,El Y]
         rfl
   all_goals
     simp only[ar] at h
     rename_i hx
     subst h
     have C:=i x _ hx
     refine⟨j x,w,g,?_,C,hi,Ext.refl _ _ _⟩
     generalize D:j x=y at C
     cases C<;>simp[execOp,D]
 | binOp op t x y yt=>
   simp only[gi] at h
   split at h<;>try (simp at h;done)
   · rename_i hx D
     split at h<;>try (simp at h;done)
     rename_i ms hu
     split at h<;>try (simp at h;done)
     rename_i E
     have hx' := i x _ hx
     have hy' := i y _ D
     refine ko.v hi h fun v e=>?_
     have hgd:(eqGuard op t x y .nilIface .nilIface).run P w=.ok () w:=by
       simp only[Bool.or_eq_true] at E
       rcases E with E | E
       · cases x<;>first | (simp[sU] at E;done) | (unfold eqGuard;split<;>simp)
       · cases y<;>first | (simp[sU] at E;done) | (unfold eqGuard;split<;>simp)
     generalize hxv:j x=xv at hx'
     generalize hyv:j y=yv at hy'
     cases hx' with | sc _=>?_
     cases hy' with | sc _=>?_
     have hq:(Op.equal t .nilIface .nilIface).run P w=.ok true w:=by
       have:∀ d,(Op.equalIn (d+1) t .nilIface .nilIface).run P w=.ok true w:=fun d=>by simp[Op.equalIn,ag hu]
       exact this 9999
     obtain⟨z,p,q⟩:=fS (P:=P) (w:=w) (g:=g) e hq (by simp[binOp]) (by simp[binOp])
     exact⟨z,by simp only[execOp,Sem.run_bind,hxv,hyv,hgd,Result.andThen_ok,p,Sem.run_pure],q⟩
   · rename_i a b _ hx D
     refine ko.v hi h fun v e=>?_
     obtain⟨z,u,A,F⟩:=F5 (P:=P) (w:=w) (ox:=x) (oy:=y) e (i x a hx) (i y b D)
     exact⟨z,by simp only[execOp,Sem.run_bind,u,A,Result.andThen_ok,Sem.run_pure],F⟩
 | unOp op t x=>
   simp only[gi] at h
   split at h<;>try (simp at h;done)
   rename_i a hx
   refine ko.v hi h fun v e=>?_
   obtain⟨z,u,A⟩:=Hx (P:=P) (w:=w) e (i x a hx)
   exact⟨z,by simp[execOp,u],A⟩
 | convert s d x=>
   simp only[gi] at h
   split at h<;>try (simp at h;done)
   rename_i a hx
   refine ko.v hi h fun v e=>?_
   obtain⟨z,u,A⟩:=Eg (P:=P) (w:=w) e (i x a hx)
   exact⟨z,by simp[execOp,u],A⟩
 | makeInterface t x=>
   simp only[gi] at h
   split at h<;>simp only[ar,reduceCtorEq] at h
   rename_i d v hne hu hx
   subst h
   refine⟨.iface t (j x),w,g,?_,.fq (i x v hx),hi,Ext.refl _ _ _⟩
   simp only[execOp,Instr.makeInterface,Sem.run_bind,ag hu,Result.andThen_ok]
   cases d<;>first | exact(hne _ rfl).elim | simp
 | makeFunc f a b=>
   simp only[gi] at h
   split at h<;>simp only[ar,reduceCtorEq] at h
   rename_i x y hx D
   subst h
   have h1:=so i hx
   have h2:=so i D
   have N:(a.toList.map j).toArray=a.map j:=by apply Array.ext';simp
   have W:(b.toList.map j).toArray=b.map j:=by apply Array.ext';simp
   rw[N] at h1;rw[W] at h2
   exact⟨.func f (a.map j) (b.map j),w,g,by simp[execOp,Instr.makeFunc],.fn h1.1 h2.1 h1.2 h2.2,hi,Ext.refl _ _ _⟩
 | makeMap t r=>
   cases r with
   | some r=>simp[gi] at h
   | none=>
     refine ko.p h fun v O e=>?_
     obtain⟨z,w', g', u,A,F,I⟩:=zk (P:=P) (t:=t) hi e
     exact⟨z,w', g', by simp[execOp,u],A,F,I⟩
 | makeSlice t l c=>
   simp only[gi] at h
   split at h<;>try (simp at h;done)
   rename_i x y hx D
   refine ko.p h fun v O e=>?_
   obtain⟨z,w', g', u,A,F,I⟩:=xz (P:=P) hi e (i l x hx) (i c y D)
   exact⟨z,w', g', by simp[execOp,u],A,F,I⟩
 | slice t x lo U mx=>
   cases mx with
   | some m=>
     cases lo with
     | some lo2=>
       cases U with
       | none=>simp[gi] at h
       | some V=>
         simp only[gi] at h
         split at h<;>try (simp at h;done)
         rename_i a b c d hx J E hd
         refine ko.v hi h fun v e=>?_
         obtain⟨z,u,A⟩:=F7 (P:=P) (w:=w) e (i x a hx) (i lo2 b J) (i V c E) (i m d hd)
         exact⟨z,by simp only[execOp,Sem.run_bind,Option.map_some];rw[u];simp,A⟩
     | none=>
       cases U with
       | none=>simp[gi] at h
       | some V=>
         simp only[gi] at h
         split at h<;>try (simp at h;done)
         rename_i a b c hx J E
         refine ko.v hi h fun v e=>?_
         obtain⟨z,u,A⟩:=Eh (P:=P) (w:=w) e (i x a hx) (i V b J) (i m c E)
         exact⟨z,by simp only[execOp,Sem.run_bind,Option.map_none,Option.map_some];rw[u];simp,A⟩
   | none=>
     simp only[gi] at h
     split at h<;>try (simp at h;done)
     rename_i a l hh hx K hhi
     refine ko.v hi h fun v e=>?_
     have key:∀ {oo:Option Operand} {r:Option AV},(match oo with
         | none=>some none
         | some a=>match ρ a with
           | some v=>some (some v)
           | none=>none)=some r→(∀ a x,r=some a→oo.map j=some x→VR g a x)∧r.isSome=(oo.map j).isSome:=by
       intro oo r e
       cases oo with
       | none=>simp only[ar] at e;subst e;simp
       | some a=>
         simp only at e
         split at e<;>simp only[ar,reduceCtorEq] at e
         rename_i v C
         subst e
         refine⟨fun a' x N W=>?_,rfl⟩
         simp only[Option.map_some,ar] at N W
         subst N;subst W;exact i a v C
     obtain⟨k1,k2⟩:=key K
     obtain⟨k3,k4⟩:=key hhi
     obtain⟨z,u,A⟩:=BU (P:=P) hi (lx:=lo.map j) (hx:=U.map j) e (i x a hx) k1 k3 k2 k4
     exact⟨z,by simp only[execOp,Sem.run_bind,Option.map_none];rw[u];simp,A⟩
 | fieldAddr s x f=>
   simp only[gi] at h
   split at h<;>try (simp at h;done)
   rename_i a hx
   refine ko.v hi h fun v e=>?_
   obtain⟨z,u,A⟩:=xy (P:=P) (w:=w) e (i x a hx)
   exact⟨z,by simp[execOp,u],A⟩
 | field t x f=>
   simp only[gi] at h
   split at h<;>try (simp at h;done)
   rename_i a hx
   refine ko.v hi h fun v e=>?_
   obtain⟨z,u,A⟩:=BT (P:=P) (w:=w) e (i x a hx)
   exact⟨z,by simp[execOp,u],A⟩
 | indexAddr t x X=>
   simp only[gi] at h
   split at h<;>try (simp at h;done)
   rename_i a b hx D
   refine ko.v hi h fun v e=>?_
   obtain⟨z,u,A⟩:=ye (P:=P) hi e (i x a hx) (i X b D)
   exact⟨z,by simp[execOp,u],A⟩
 | index t x X=>
   simp only[gi] at h
   split at h<;>try (simp at h;done)
   rename_i a b hx D
   refine ko.v hi h fun v e=>?_
   obtain⟨z,u,A⟩:=BY (P:=P) (w:=w) e (i x a hx) (i X b D)
   exact⟨z,by simp[execOp,u],A⟩
 | lookup t x X ok=>
   simp only[gi] at h
   split at h<;>try (simp at h;done)
   rename_i a b hx D
   refine ko.v hi h fun v e=>?_
   obtain⟨z,u,A⟩:=Bc (P:=P) hi e (i x a hx) (i X b D)
   exact⟨z,by simp[execOp,u],A⟩
 | mapUpdate t m k x=>
   simp only[gi] at h
   split at h<;>try (simp at h;done)
   rename_i a b c h1 h2 h3
   refine ko.s h fun O e=>?_
   obtain⟨w', u,A,F⟩:=uJ (P:=P) hi e (i m a h1) (i k b h2) (i x c h3)
   exact⟨w', g,by simp[execOp,u],A,F⟩
 | insert t m k x=>
   simp only[gi] at h
   split at h<;>try (simp at h;done)
   rename_i a b c h1 h2 h3
   refine ko.s h fun O e=>?_
   obtain⟨w', u,A,F⟩:=uJ (P:=P) hi e (i m a h1) (i k b h2) (i x c h3)
   exact⟨w', g,by simp[execOp,u],A,F⟩
 | range t x=>
   simp only[gi] at h
   split at h<;>try (simp at h;done)
   rename_i a hx
   refine ko.p h fun v O e=>?_
   obtain⟨z,w', g', u,A,F,I⟩:=B1 (P:=P) hi e (i x a hx)
   exact⟨z,w', g', by simp[execOp,u],A,F,I⟩
 | next it s=>
   simp only[gi] at h
   split at h<;>try (simp at h;done)
   rename_i a hx
   refine ko.p h fun v O e=>?_
   obtain⟨z,w', u,A,F,I⟩:=Ej (P:=P) (t:=ty) hi e (i it a hx)
   exact⟨z,w', g,by simp[execOp,u],A,F,I⟩
 | entry it=>
   simp only[gi] at h
   split at h<;>try (simp at h;done)
   rename_i a hx
   refine ko.v hi h fun v e=>?_
   obtain⟨z,u,A⟩:=B2 (P:=P) hi e (i it a hx)
   exact⟨z,by simp[execOp,u],A⟩
 | typeAssert x xt t ok=>
   simp only[gi] at h
   split at h<;>try (simp at h;done)
   rename_i a hx
   refine ko.v hi h fun v e=>?_
   obtain⟨z,u,A⟩:=Be (P:=P) (w:=w) (xt:=xt) e (i x a hx)
   exact⟨z,by simp[execOp,u],A⟩
 | extract t X=>
   simp only[gi] at h
   split at h<;>try (simp at h;done)
   rename_i vs hx
   refine ko.v hi h fun v e=>?_
   rw[iB] at e
   have C:=i t _ hx
   generalize D:j t=y at C
   cases C with
   | bm K hh=>
     obtain⟨x,N,W⟩:=fG.get ⟨K,hh⟩ e
     exact⟨x,by simp[execOp,D,Instr.extract,N],W⟩
 | call c=>
   simp only[gi,uv] at h
   split at h<;>try (simp at h;done)
   rename_i args G
   have B:=so i G
   have ea:(c.args.toList.map j).toArray=c.args.map j:=by apply Array.ext';simp
   rw[ea] at B
   split at h
   · rename_i b E
     refine zl (cs:=(c.args.map fun | .const _=>true | _=>false)) (ty:=ty) hi h B fun w' => ?_
     simp only[execOp,resolve,E,Sem.run_bind,Sem.run_pure,Result.andThen_ok,invoke,Array.toArray_toList]
     rfl
   · rename_i r T E
     split at h<;>try (simp at h;done)
     rename_i t v hx
     split at h<;>try (simp at h;done)
     rename_i f vb Y
     split at h<;>simp only[ar,reduceCtorEq] at h
     rename_i J
     subst h
     have C:=i r _ hx
     generalize D:j r=y at C
     cases C with
     | fq C=>
       rename_i x
       obtain⟨y,hrun,hvy⟩:=My (w:=w) (n:=P.types.size+(Made.depth-1)) Y C
       refine⟨#[y]++c.args.map j,?_,fG.append (fG.cons (xs:=[]) hvy (fG.nil g)) B⟩
       have hn:P.types.size+Made.depth=(P.types.size+(Made.depth-1))+1:=by
         have:1≤Made.depth:=by decide
         omega
       simp only[execOp,resolve,E,Sem.run_bind,Sem.run_pure,Result.andThen_ok,invoke,D]
       have e0:(#[Value.iface t x]++c.args.map j)[0]? = some (.iface t x):=by rw[Array.getElem?_append_left (by simp)];rfl
       have N:(#[Value.iface t x]++c.args.map j).extract 1 (#[Value.iface t x]++c.args.map j).size=c.args.map j:=by
         apply Array.ext'
         rw[Array.toList_extract,List.extract_eq_take_drop]
         simp
         rw[List.take_of_length_le (by simp)]
       rw[e0]
       simp only[N,callMethod,Sem.run_bind,run_program,Result.andThen_ok,hn,hrun,mj J]
   · rename_i f E
     split at h<;>try (simp at h;done)
     · rename_i fg first cap hx
       split at h<;>simp only[ar,reduceCtorEq] at h
       rename_i J
       subst h
       have C:=i f _ hx
       generalize D:j f=y at C
       cases C with
       | fn Q Z R q4=>
         rename_i xs ys
         refine⟨xs++c.args.map j++ys,?_,fG.append (fG.append ⟨Q,R⟩ B) ⟨Z,q4⟩⟩
         simp only[execOp,resolve,E,Sem.run_bind,Sem.run_pure,Result.andThen_ok,invoke,D,Deferred.ofValue,mj J]
     rotate_left
     · rename_i y _ _ hx
       split at h<;>simp only[ar,reduceCtorEq] at h
       rename_i gf l J
       subst h
       obtain⟨T,t,v,first,cap,rfl,Y,hbo,rfl⟩:=yH J
       have C:=i f _ hx
       generalize D:j f=y at C
       cases C with
       | fn Q Z R q4=>
         rename_i xs ys
         have H:0<xs.size:=by rw[←Q];simp
         have h0:xs[0]? = some xs[0]:=Bx H
         have M:=R 0 (.fq t v) _ rfl h0
         generalize hz:xs[0]=z at M h0
         cases M with
         | fq hvx=>
           rename_i x0
           have hxs:xs = #[Value.iface t x0]++xs.extract 1 xs.size:=by
            apply Array.ext'
            have:xs.toList=Value.iface t x0::xs.toList.tail:=by
             cases K:xs.toList with
             | nil=>rw[←Array.getElem?_toList,K] at h0;simp at h0
             | cons a r=>rw[←Array.getElem?_toList,K] at h0;simp at h0;simp[h0]
            rw[Array.toList_append,Array.toList_extract,List.extract_eq_take_drop]
            rw[this]
            simp
            rw[List.take_of_length_le (by simp)]
           have hq:fG g first (xs.extract 1 xs.size):=by
            refine⟨by have:=Q;simp at this ⊢;omega,fun k a y e e' => R (k+1) a y (by simpa using e) ?_⟩
            rw[Array.getElem?_extract] at e'
            split at e'
            · rw[←e', Nat.add_comm]
            · simp at e'
           refine⟨#[x0]++(xs.extract 1 xs.size++c.args.map j),?_,fG.append (fG.cons (xs:=[]) hvx (fG.nil g)) (fG.append hq B)⟩
           have hn:P.types.size+Made.depth=(P.types.size+(Made.depth-1))+1:=by
            have:1≤Made.depth:=by decide
            omega
           simp only[execOp,resolve,E,Sem.run_bind,Sem.run_pure,Result.andThen_ok,invoke,D,Deferred.ofValue]
           have e0:(xs++c.args.map j)[0]? = some (.iface t x0):=by rw[Array.getElem?_append_left H];exact h0
           have N:(xs++c.args.map j).extract 1 (xs++c.args.map j).size=xs.extract 1 xs.size++c.args.map j:=by
            apply Array.ext'
            have h1:1≤xs.toList.length:=by simp;omega
            simp only[Array.toList_extract,Array.toList_append,List.extract_eq_take_drop,Array.size_append]
            rw[List.drop_append_of_le_length h1,List.take_of_length_le (by simp;omega),List.take_of_length_le (by simp)]
           rw[e0]
           simp only[N,callMethod,Sem.run_bind,run_program,Result.andThen_ok,hn,AP Y,mj hbo]
     · rename_i id hx
       simp only[ar] at h;subst h
       have C:=i f _ hx
       generalize D:j f=y at C
       cases C with
       | pq K=>
         rename_i l
         refine⟨l,c.args.map j,K,?_,B⟩
         simp only[execOp,resolve,E,Sem.run_bind,Sem.run_pure,Result.andThen_ok,invoke,D,Deferred.ofValue,Array.empty_append]
 | defer c=>
   simp only[gi] at h
   split at h<;>try (simp at h;done)
   rename_i args G
   have B:=so i G
   have ea:(c.args.toList.map j).toArray=c.args.map j:=by apply Array.ext';simp
   rw[ea] at B
   split at h<;>try (simp at h;done)
   rename_i f E
   split at h<;>try (simp at h;done)
   rename_i fg first cap hx
   split at h<;>simp only[ar,reduceCtorEq] at h
   rename_i J
   subst h
   have C:=i f _ hx
   generalize D:j f=y at C
   cases C with
   | fn Q Z R q4=>
     rename_i xs ys
     refine⟨ys,xs++c.args.map j,?_,⟨Z,q4⟩,fG.append ⟨Q,R⟩ B,J⟩
     simp only[execOp,resolve,E,Sem.run_bind,Sem.run_pure,Result.andThen_ok,D,Deferred.ofValue]
 | panic x=>
   simp only[gi] at h
   split at h<;>simp only[ar,reduceCtorEq] at h
   rename_i t v hx
   subst h
   have C:=i x _ hx
   generalize D:j x=y at C
   cases C with
   | fq C=>exact⟨_,by simp[execOp,D,Instr.panic],.fq C⟩
 | _=>simp[gi] at h
end
end Go.Eng
namespace Go.Eng
noncomputable section
inductive aC where
 | code (c : Code)
 | inBlock (id : Nat)
 | inLoop (c : Code)
 | inScope (c : Code)
 | ops (all : Array Oper) (todo : List Nat)
 | vC (id : Nat)
 | nj (id : Nat)
 | GS
inductive de where
 | run
 | returning
 | panicking (chain : List (AV × Bool))
inductive gx where
 | call (fn : FuncId) (cap args : List AV)
 | mf (id : Nat)
 | sI (bs : List Nat)
structure ad where
 fn : FuncId
 n : Nat
 mask : Nat
 loc : List (Nat × AV)
 pW : List (Nat × AV)
 todo : List aC
 defers : List gx
 mode : de
 kind : CallKind
 cm : de
 round : Option Nat
def tb (m n:Nat):Bool:=Nat.beq (Nat.land (Nat.shiftRight m n) 1) 1
def ad.get (F:ad)(t:Nat):Option AV:=
 match tb F.mask t with
 | true=>lk F.pW t
 | false=>lk F.loc t
def ad.set (F:ad)(t:Nat)(v:AV):ad:=
 match Nat.ble (t+1) F.n with
 | true=>match tb F.mask t with
   | true=>{ F with pW:=up F.pW t v }
   | false=>{ F with loc:=(t,v)::F.loc }
 | false=>F
def ad.put (F:ad)(d:Option Tmp)(v:AV):ad:=
 match d with
 | some t=>F.set t v
 | none=>F
def ad.eval (F:ad):Operand→Option AV
 | .tmp t=>F.get t
 | .const v=>some (abM v)
 | .global _=>none
 | .func f=>some (.fn (.func f) [] [])
inductive tL (g : Gh) : aC → Item → Prop
 | code {c : Code} : tL g (.code c) (.code c)
 | inBlock {id : Nat} : tL g (.inBlock id) (.inBlock id)
 | inLoop {c : Code} : tL g (.inLoop c) (.inLoop c)
 | inScope {c : Code} : tL g (.inScope c) (.inScope c)
 | ops {all : Array Oper} {l : List Nat} : tL g (.ops all l) (.inRegion all l)
 | vC {id : Nat} {l : Loc} (hl : g.ph id = some l) : tL g (.vC id) (.inRangeFunc l.cd)
 | nj {id : Nat} {l : Loc} (hl : g.ph id = some l) : tL g (.nj id) (.endRangeFunc l.cd)
 | GS : tL g .GS .beginRound
variable {g g' : Gh}
theorem tL.mono (d:Gh.le g g'){a:aC}{b:Item}(h:tL g a b):tL g' a b:=by
 cases h with
 | code=>exact .code
 | inBlock=>exact .inBlock
 | inLoop=>exact .inLoop
 | inScope=>exact .inScope
 | ops=>exact .ops
 | vC c=>exact .vC (d.ph _ _ c)
 | nj c=>exact .nj (d.ph _ _ c)
 | GS=>exact .GS
inductive mX (g : Gh) : List aC → List Item → Prop
 | nil : mX g [] []
 | cons {a : aC} {b : Item} {l : List aC} {m : List Item} (h : tL g a b) (t : mX g l m) : mX g (a :: l) (b :: m)
theorem mX.mono {g g' : Gh}(a:Gh.le g g'){l:List aC}{m:List Item}(h:mX g l m):mX g' l m:=by
 induction h with
 | nil=>exact .nil
 | cons h _ b=>exact .cons (h.mono a) b
inductive hP (g : Gh) : List (AV × Bool) → List PanicEntry → Prop
 | nil : hP g [] []
 | cons {v : AV} {x : Value} {b : Bool} {l : List (AV × Bool)} {m : List PanicEntry} (h : VR g v x) (t : hP g l m) : hP g ((v, b) :: l) ({ v := x, recovered := b } :: m)
theorem hP.mono {g g' : Gh}(a:Gh.le g g'){l:List (AV×Bool)}{m:List PanicEntry}(h:hP g l m):hP g' l m:=by
 induction h with
 | nil=>exact .nil
 | cons h _ b=>exact .cons (h.mono a) b
inductive mg (g : Gh) : de → FrameMode → Prop
 | run : mg g .run .run
 | returning : mg g .returning .returning
 | panicking {l : List (AV × Bool)} {m : List PanicEntry} (h : hP g l m) : mg g (.panicking l) (.panicking m)
theorem mg.mono {g g' : Gh}(c:Gh.le g g'){a:de}{b:FrameMode}(h:mg g a b):mg g' a b:=by
 cases h with
 | run=>exact .run
 | returning=>exact .returning
 | panicking h=>exact .panicking (h.mono c)
inductive kB (P : Program) (g : Gh) : List gx → List Deferred → Prop
 | nil : kB P g [] []
 | cons {f : FuncId} {cap args : List AV} {ys xs : Array Value} {l : List gx} {m : List Deferred} (hc : fG g cap ys) (ha : fG g args xs) (hb : mJ P f = true) (t : kB P g l m) :
  kB P g (.call f cap args :: l) ({ target := .fn (.func f) ys, args := xs } :: m)
 | mf {id : Nat} {l : Loc} {k : List gx} {m : List Deferred} (hl : g.ph id = some l) (t : kB P g k m) : kB P g (.mf id :: k) ({ target := .collected l.cd, args := #[] } :: m)
 | sI {bs : List Nat} {k : List gx} {m : List Deferred} (t : kB P g k m) : kB P g (.sI bs :: k) (bs.map (fun b => ({ target := .collected b, args := #[] } : Deferred)) ++ m)
theorem kB.mono {P:Program}{g g' : Gh}(b:Gh.le g g'){l:List gx}{m:List Deferred}(h:kB P g l m):kB P g' l m:=by
 induction h with
 | nil=>exact .nil
 | cons c d e _ a=>exact .cons (c.mono b) (d.mono b) e a
 | mf f _ a=>exact .mf (b.ph _ _ f) a
 | sI _ a=>exact .sI a
def pZ (g:Gh):Option Nat→Option Nat→Prop
 | none,none=>True
 | some id,some b=>∃ l,g.ph id=some l∧l.cd=b
 | _,_=>False
theorem pZ.mono (c:Gh.le g g'){a b:Option Nat}(h:pZ g a b):pZ g' a b:=by
 cases a<;>cases b<;>first | exact h | exact(let ⟨l,e,d⟩:=h;⟨l,c.ph _ _ e,d⟩)
structure mW (P : Program) (g : Gh) (F : ad) (fr : Frame) : Prop where
 fn : fr.fn = F.fn
 size : fr.tmps.size = F.n
 get : ∀ t v, F.get t = some v → ∃ x, fr.tmps[t]? = some x ∧ VR g v x
 todo : mX g F.todo fr.todo
 defers : kB P g F.defers fr.defers
 mode : mg g F.mode fr.mode
 kind : fr.kind = F.kind
 round : pZ g F.round fr.roundOf
theorem mW.mono {P:Program}{g g' : Gh}(c:Gh.le g g'){F:ad}{fr:Frame}(h:mW P g F fr):mW P g' F fr:=
 ⟨h.fn,h.size,fun t v e=>let ⟨x,a,b⟩:=h.get t v e;⟨x,a,b.mono c⟩,h.todo.mono c,h.defers.mono c,h.mode.mono c,h.kind,h.round.mono c⟩
def uf (g:Gh)(F:ad)(a cs:List Frame):Prop:=
 match F.kind with
 | .deferred=>∃ c rest m,a=c::rest∧cs={ c with mode:=m }::rest∧mg g F.cm m
 | _=>cs=a
theorem uf.mono {g g' : Gh}(f:Gh.le g g'){F:ad}{e cs:List Frame}(h:uf g F e cs):uf g' F e cs:=by
 unfold uf at *
 split at h
 · obtain⟨c,rest,m,a,b,d⟩:=h;exact⟨c,rest,m,a,b,d.mono f⟩
 · exact h
variable {F F' : ad}
theorem uf.congr {a cs:List Frame}(b:F'.kind=F.kind)(c:F'.cm=F.cm)(h:uf g F a cs):uf g F' a cs:=by
 unfold uf at *
 rw[b,c];exact h
variable {P : Program} {fr : Frame}
theorem EL.of (h:mW P g F fr):EL g F.eval fr.eval:=by
 intro x v e
 cases x with
 | tmp t=>
   obtain⟨y,b,d⟩:=h.get t v e
   have:fr.eval (.tmp t)=y:=by simp[Frame.eval,Array.getD_eq_getD_getElem?, b]
   rw[this];exact d
 | const c=>simp only[ad.eval,ar] at e;subst e;exact s5 g c
 | global _=>simp[ad.eval] at e
 | func f=>simp only[ad.eval,ar] at e;subst e;exact .fn rfl rfl (fun k a x e=>by simp at e) (fun k a x e=>by simp at e)
theorem mW.put {P:Program}{g:Gh}{F:ad}{fr:Frame}(h:mW P g F fr){d:Option Tmp}{v:AV}{x:Value}(z:VR g v x){tmps:Array Value}
   (o:tmps=match d with | some t=>fr.tmps.setIfInBounds t x | none=>fr.tmps):mW P g (F.put d v) { fr with tmps:=tmps }:=by
 cases d with
 | none=>simp only at o;subst o;exact h
 | some t=>
   simp only at o;subst o
   simp only[ad.put,ad.set]
   have f:=h.size
   have base:∀(F' : ad),F'.fn=F.fn→F'.n=F.n→F'.todo=F.todo→F'.defers=F.defers→F'.mode=F.mode→F'.kind=F.kind→F'.round=F.round →
       (∀ s u,F'.get s=some u→∃ y,(fr.tmps.setIfInBounds t x)[s]? = some y∧VR g u y)→mW P g F' { fr with tmps:=fr.tmps.setIfInBounds t x }:=by
     intro F' A a2 a3 a4 a5 B C D
     exact⟨by rw[A];exact h.fn,by rw[a2];simpa using f,D,by rw[a3];exact h.todo,by rw[a4];exact h.defers,by rw[a5];exact h.mode,by rw[B];exact h.kind,by rw[C];exact h.round⟩
   split
   · rename_i i
     have i:=eL i
     have c:t<fr.tmps.size:=by rw[f];exact i
     split
     · rename_i p
       refine base _ rfl rfl rfl rfl rfl rfl rfl fun s u e=>?_
       simp only[ad.get] at e
       by_cases a:s=t
       · subst a
         rw[p] at e
         simp only[tB,ar] at e
         subst e
         exact⟨x,by simp[c],z⟩
       · have r:F.get s=some u:=by
          simp only[ad.get]
          split at e
          · rename_i b;rw[sk _ _ a] at e;first | exact e | (rw[show tb F.mask s=true from b];exact e)
          · rename_i b;first | exact e | (rw[show tb F.mask s=false from b];exact e)
         obtain⟨y,j,k⟩:=h.get s u r
         exact⟨y,by rw[Array.getElem?_setIfInBounds,if_neg (Ne.symm a)];exact j,k⟩
     · rename_i p
       refine base _ rfl rfl rfl rfl rfl rfl rfl fun s u e=>?_
       simp only[ad.get] at e
       by_cases a:s=t
       · subst a
         rw[p] at e
         simp only[gz,Nat.beq_refl,ar] at e
         subst e
         exact⟨x,by simp[c],z⟩
       · have r:F.get s=some u:=by
          simp only[ad.get]
          split at e
          · rename_i b;first | exact e | (rw[show tb F.mask s=true from b];exact e)
          · rename_i b
            simp only[gz] at e
            rw[show Nat.beq t s=false from by rw[Bool.eq_false_iff];exact fun q=>a (jK q).symm] at e
            first | exact e | (rw[show tb F.mask s=false from b];exact e)
         obtain⟨y,j,k⟩:=h.get s u r
         exact⟨y,by rw[Array.getElem?_setIfInBounds,if_neg (Ne.symm a)];exact j,k⟩
   · rename_i i
     have w:¬ t<fr.tmps.size:=by
       intro c
       rw[tn (show t+1≤F.n by rw[←f];exact c)] at i;simp at i
     refine base F rfl rfl rfl rfl rfl rfl rfl fun s u e=>?_
     obtain⟨y,j,k⟩:=h.get s u e
     exact ⟨y, by rw[Array.getElem?_setIfInBounds];split
                  · rename_i a;subst a;exact absurd (Array.getElem?_eq_some_iff.1 j).1 w
                  · exact j,k⟩
theorem ad.Mz (F:ad)(d:Option Tmp)(v:AV):(F.put d v).kind=F.kind∧(F.put d v).cm=F.cm∧(F.put d v).todo=F.todo∧(F.put d v).mode=F.mode∧(F.put d v).round=F.round∧(F.put d v).defers=F.defers:=by
 cases d with
 | none=>exact⟨rfl,rfl,rfl,rfl,rfl,rfl⟩
 | some t=>
   simp only[ad.put,ad.set]
   split
   · split<;>exact⟨rfl,rfl,rfl,rfl,rfl,rfl⟩
   · exact⟨rfl,rfl,rfl,rfl,rfl,rfl⟩
def Reach (P:Program)(F:ad)(S:af)(G:ad→af→Prop):Prop:=
 ∀ (g:Gh) (w:World) (fr:Frame) (a cs:List Frame),mW P g F fr→uf g F a cs→Inv S g w →
  ∃ F' d g' w' b c,G F' d∧mW P g' F' b∧uf g' F' a c∧F'.kind=F.kind∧F'.fn=F.fn∧F'.round=F.round∧Inv d g' w' ∧ Ext S g w d g' w' ∧ Steps P (lone fr cs w) (lone b c w')
variable {S : af} {G : ad → af → Prop}
theorem Reach.done (h:G F S):Reach P F S G:=
 fun g w fr _ cs a b c=>⟨F,S,g,w,fr,cs,h,a,b,rfl,rfl,rfl,c,Ext.refl _ _ _,Steps.refl _ _⟩
theorem Reach.mono {j:ad→af→Prop}(h:Reach P F S G)(k:∀ F' d,G F' d→j F' d):Reach P F S j:=
 fun g w fr e cs a b c=>let ⟨F', d,g', w', f,i,q,rest⟩:=h g w fr e cs a b c;⟨F', d,g', w', f,i,k _ _ q,rest⟩
theorem Reach.trans {P:Program}{F:ad}{S:af}{G k:ad→af→Prop}(h:Reach P F S G)(o:∀ F' n,G F' n→Reach P F' n k):Reach P F S k:=by
 intro g w fr d cs a b c
 obtain⟨F1,p,r,w1,e,f,q,s,t,u,v,x,y,z,A⟩:=h g w fr d cs a b c
 obtain⟨B,C,D,E,i,j,H,I,J,K,L,M,N,O,Q⟩:=o F1 p q r w1 e d f s t y
 exact⟨B,C,D,E,i,j,H,I,J,K.trans u,L.trans v,M.trans x,N,z.trans O,Steps.trans A Q⟩
theorem Reach.quiet (h:Reach P F' S G)(j:F'.kind=F.kind)(k:F'.fn=F.fn)(n:F'.round=F.round)(o:F'.cm=F.cm)(p:∀ g w fr cs,mW P g F fr→Inv S g w→∃ d,mW P g F' d∧step P (lone fr cs w)=.next (lone d cs w)):Reach P F S G:=by
 intro g w fr e cs a b c
 obtain⟨d,q,r⟩:=p g w fr cs a c
 obtain⟨s,t,u,v,f,i,x,y,z,A,B,C,D,E,H⟩:=h g w d e cs q (b.congr j o) c
 exact⟨s,t,u,v,f,i,x,y,z,A.trans j,B.trans k,C.trans n,D,E,Steps.head r H⟩
def r9 (id:Nat):List aC→Option (List aC)
 | []=>none
 | .inBlock a::k=>match Nat.beq a id with
   | true=>some k
   | false=>r9 id k
 | _::k=>r9 id k
variable {l : List aC} {m : List Item}
theorem uE {id:Nat}(h:mX g l m):match r9 id l with
   | some l' => ∃ c,exitTo id m=some c∧mX g l' c
   | none=>exitTo id m=none:=by
 induction h with
 | nil=>simp[r9,exitTo]
 | cons hh f d=>
   cases hh with
   | inBlock=>
     rename_i l m a
     simp only[r9,exitTo]
     cases b:Nat.beq a id with
     | true=>
       have:a=id:=jK b
       subst this
       simp only[BEq.rfl,if_true]
       exact⟨_,rfl,f⟩
     | false=>
       have:(a==id)=false:=by
        rw[beq_eq_false_iff_ne];intro e;subst e;rw[Nat.beq_refl] at b;simp at b
       simp only[this,Bool.false_eq_true,if_false]
       exact d
   | _=>simp only[r9,exitTo];exact d
def Jq (F:ad):Option ad:=
 match F.mode with
 | .run=>match F.todo with
   | []=>match F.round with
     | none=>some { F with mode:=.returning }
     | some _=>none
   | .code .ret::_=>match F.round with
     | none=>some { F with mode:=.returning }
     | some _=>none
   | .code .skip::k=>some { F with todo:=k }
   | .code (.label _)::k=>some { F with todo:=k }
   | .inBlock _::k=>some { F with todo:=k }
   | .inScope _::k=>some { F with todo:=k }
   | .code (.seq a b)::k=>some { F with todo:=.code a :: .code b::k }
   | .code (.cond c a b)::k=>match F.eval c with
     | some (.sc (.bool true))=>some { F with todo:=.code a::k }
     | some (.sc (.bool false))=>some { F with todo:=.code b::k }
     | _=>none
   | .code (.block id b)::k=>some { F with todo:=.code b :: .inBlock id::k }
   | .code (.loop b)::k=>some { F with todo:=.code b :: .inLoop b::k }
   | .inLoop b::k=>some { F with todo:=.code b :: .inLoop b::k }
   | .code (.scope b)::k=>some { F with todo:=.code b :: .inScope b::k }
   | .code (.exit id)::k=>match r9 id k with
     | some d=>some { F with todo:=d }
     | none=>none
   | .code (.region _ all false)::k=>some { F with todo:=.ops all (List.range all.size)::k,loc:=[] }
   | .ops _ []::k=>some { F with todo:=k,loc:=[] }
   | _=>none
 | _=>none
theorem mW.with {P:Program}{g:Gh}{F:ad}{fr:Frame}(h:mW P g F fr){l:List aC}{m:List Item}(a:mX g l m):mW P g { F with todo:=l } { fr with todo:=m }:=
 ⟨h.fn,h.size,h.get,a,h.defers,h.mode,h.kind,h.round⟩
theorem mW.QW (h:mW P g F fr)(a:mX g l m):mW P g { F with todo:=l,loc:=[] } { fr with todo:=m }:=by
 refine⟨h.fn,h.size,?_,a,h.defers,h.mode,h.kind,h.round⟩
 intro t v e
 simp only[ad.get] at e
 split at e
 · rename_i b
   exact h.get t v (by simp only[ad.get,b];exact e)
 · simp[oh] at e
theorem HB (h:Jq F=some F'):F'.kind=F.kind∧F'.fn=F.fn∧F'.round=F.round∧F'.cm=F.cm:=by
 unfold Jq at h
 split at h<;>try (simp at h;done)
 split at h<;>(try (split at h))<;>simp only[ar,reduceCtorEq] at h<;>(subst h;exact⟨rfl,rfl,rfl,rfl⟩)
theorem HC (h:Jq F=some F')(g:Gh)(w:World)(fr:Frame)(cs:List Frame)(f:mW P g F fr) :
   ∃ r,mW P g F' r∧step P (lone fr cs w)=.next (lone r cs w):=by
 have s:=EL.of f
 unfold Jq at h
 split at h<;>try (simp at h;done)
 rename_i q
 have n:fr.mode=.run:=by
   have:=f.mode
   rw[q] at this
   generalize fr.mode=C at this ⊢
   cases this;rfl
 have j:=f.todo
 have o:F.round=none→fr.roundOf=none:=by
   intro e;have:=f.round;rw[e] at this;cases z:fr.roundOf with
   | none=>rfl
   | some b=>rw[z] at this;exact this.elim
 split at h
 · rename_i i
   rw[i] at j
   split at h<;>simp only[ar,reduceCtorEq] at h
   rename_i p
   subst h
   generalize d:fr.todo=td at j
   cases j
   refine⟨{ fr with mode:=.returning },⟨f.fn,f.size,f.get,f.todo,f.defers,.returning,f.kind,f.round⟩,step_lone_go ?_⟩
   simp[stepG,stepG.exec,n,d,o p]
 · rename_i i
   rw[i] at j
   split at h<;>simp only[ar,reduceCtorEq] at h
   rename_i p
   subst h
   generalize d:fr.todo=td at j
   cases j with | cons h1 h2=>?_
   cases h1
   refine⟨{ fr with mode:=.returning },⟨f.fn,f.size,f.get,f.todo,f.defers,.returning,f.kind,f.round⟩,step_lone_go ?_⟩
   simp[stepG,stepG.exec,n,d,o p]
 all_goals first | (simp at h;done) | (rename_i i;rw[i] at j;generalize d:fr.todo=td at j)
 · simp only[ar] at h;subst h
   cases j with | cons h1 h2=>?_
   cases h1
   exact⟨_,f.with h2,step_lone_go (by simp[stepG,stepG.exec,n,d])⟩
 · simp only[ar] at h;subst h
   cases j with | cons h1 h2=>?_
   cases h1
   exact⟨_,f.with h2,step_lone_go (by simp[stepG,stepG.exec,n,d])⟩
 · simp only[ar] at h;subst h
   cases j with | cons h1 h2=>?_
   cases h1
   exact⟨_,f.with h2,step_lone_go (by simp[stepG,stepG.exec,n,d])⟩
 · simp only[ar] at h;subst h
   cases j with | cons h1 h2=>?_
   cases h1
   exact⟨_,f.with h2,step_lone_go (by simp[stepG,stepG.exec,n,d])⟩
 · simp only[ar] at h;subst h
   cases j with | cons h1 h2=>?_
   cases h1
   exact⟨_,f.with (.cons .code (.cons .code h2)),step_lone_go (by simp[stepG,stepG.exec,n,d])⟩
 · rename_i c a b k
   cases j with | cons h1 h2=>?_
   cases h1
   have x:∀ t,F.eval c=some (.sc (.bool t))→fr.eval c=.bool t:=by
     intro t e;have:=s c _ e;generalize fr.eval c=y at this;cases this;rfl
   split at h<;>simp only[ar,reduceCtorEq] at h
   · rename_i e
     subst h
     exact⟨_,f.with (.cons .code h2),step_lone_go (by simp[stepG,stepG.exec,n,d,x _ e])⟩
   · rename_i e
     subst h
     exact⟨_,f.with (.cons .code h2),step_lone_go (by simp[stepG,stepG.exec,n,d,x _ e])⟩
 · simp only[ar] at h;subst h
   cases j with | cons h1 h2=>?_
   cases h1
   exact⟨_,f.with (.cons .code (.cons .inBlock h2)),step_lone_go (by simp[stepG,stepG.exec,n,d])⟩
 · simp only[ar] at h;subst h
   cases j with | cons h1 h2=>?_
   cases h1
   exact⟨_,f.with (.cons .code (.cons .inLoop h2)),step_lone_go (by simp[stepG,stepG.exec,n,d])⟩
 · simp only[ar] at h;subst h
   cases j with | cons h1 h2=>?_
   cases h1
   exact⟨_,f.with (.cons .code (.cons .inLoop h2)),step_lone_go (by simp[stepG,stepG.exec,n,d])⟩
 · simp only[ar] at h;subst h
   cases j with | cons h1 h2=>?_
   cases h1
   exact⟨_,f.with (.cons .code (.cons .inScope h2)),step_lone_go (by simp[stepG,stepG.exec,n,d])⟩
 · rename_i u D
   cases j with | cons h1 h2=>?_
   cases h1
   split at h<;>simp only[ar,reduceCtorEq] at h
   rename_i E v
   subst h
   have:=uE (id:=u) h2
   rw[v] at this
   obtain⟨H,A,B⟩:=this
   exact⟨_,f.with B,step_lone_go (by simp[stepG,stepG.exec,n,d,A])⟩
 · simp only[ar] at h;subst h
   cases j with | cons h1 h2=>?_
   cases h1
   exact⟨_,f.QW (.cons .ops h2),step_lone_go (by simp[stepG,stepG.exec,n,d])⟩
 · simp only[ar] at h;subst h
   cases j with | cons h1 h2=>?_
   cases h1
   exact⟨_,f.QW h2,step_lone_go (by simp[stepG,stepG.exec,n,d])⟩
theorem Reach.Yh (e:Jq F=some F')(h:Reach P F' S G):Reach P F S G:=by
 obtain⟨a,b,c,d⟩:=HB e
 exact h.quiet a b c d fun g w fr cs f _=>HC e g w fr cs f
end
end Go.Eng
namespace Go.Eng
noncomputable section
def rP (F:ad)(all:Array Oper)(o:Oper):Option Bool:=
 match o.guard with
 | none=>some true
 | some (j,a)=>match all[j]? with
   | some c=>match c.dst with
     | some d=>match F.get d with
       | some (.sc (.bool b))=>some (b==a)
       | some (.bm [])=>some false
       | _=>none
     | none=>none
   | none=>none
variable {P : Program} {g : Gh} {F : ad} {fr : Frame} {all : Array Oper} {o : Oper}
theorem kL (m:mW P g F fr){b:Bool}(h:rP F all o=some b):Region.wanted o (yielded all fr.tmps)=b:=by
 unfold rP at h
 split at h
 · rename_i e;simp only[ar] at h;subst h;simp[Region.wanted,e]
 · rename_i j q e
   split at h<;>try (simp at h;done)
   rename_i r n
   split at h<;>try (simp at h;done)
   rename_i d p
   split at h<;>simp only[ar,reduceCtorEq] at h
   · rename_i c a
     subst h
     obtain⟨x,hx,l⟩:=m.get d _ a
     cases l
     simp[Region.wanted,e,yielded,n,p,hx]
   · rename_i a
     subst h
     obtain⟨x,hx,l⟩:=m.get d _ a
     cases l
     simp[Region.wanted,e,yielded,n,p,hx]
def bT : Op→Bool
 | .defer _=>true
 | .call c=>match c.callee with
   | .builtin .recover=>true
   | _=>false
 | _=>false
section
variable {P : Program} {fr : Frame} {cs : List Frame} {w : World} {all : Array Oper} {i : Nat} {rest : List Nat} {k : List Item} {o : Oper}
theorem gp (e:fr.mode=.run)(b:fr.todo=.inRegion all (i::rest)::k)(d:all[i]? = some o)(h:Region.wanted o (yielded all fr.tmps)=true)(a:fr.roundOf=none∨bT o.op=false) :
   stepG P true { frame:=fr,callers:=cs,status:=.running,dying:=none } w=stepG.apply P true fr cs none (execOp fr.eval o) w:=by
 have h1:stepG P true { frame:=fr,callers:=cs,status:=.running,dying:=none } w=stepG.oper P true fr cs none w:=by
   simp[stepG,stepG.exec,e,b,d,h]
 rw[h1]
 have h2:fr.oper? = some o:=by simp[Frame.oper?, b,d]
 rcases a with a | a
 · simp[stepG.oper,h2,a]
 · unfold stepG.oper
   rw[h2]
   simp only
   split
   · rename_i c j;rw[j] at a;simp[bT] at a
   · rfl
theorem vm (a:fr.mode=.run)(b:fr.todo=.inRegion all (i::rest)::k)(c:all[i]? = some o)(d:Region.wanted o (yielded all fr.tmps)=false) :
 step P (lone fr cs w)=.next (lone (fr.finish undef) cs w):=step_lone_go (by simp[stepG,stepG.exec,a,b,c,d])
theorem uX (a:fr.todo=.inRegion all (i::rest)::k)(b:all[i]? = some o)(v:Value) :
  fr.finish v={ fr with tmps:=(match o.dst with | some t=>fr.tmps.setIfInBounds t v | none=>fr.tmps),todo:=.inRegion all rest::k }:=by
 simp only[Frame.finish,a,b,Option.bind_some]
 rfl
variable {v : Value} {w' : World}
theorem w4 (a:stepG P true { frame:=fr,callers:=cs,status:=.running,dying:=none } w=stepG.apply P true fr cs none (execOp fr.eval o) w)(b:(execOp fr.eval o).run P w=.ok (.value v) w'):step P (lone fr cs w)=.next (lone (fr.finish v) cs w'):=step_lone_go (by rw[a];simp[stepG.apply,b])
theorem yJ (a:stepG P true { frame:=fr,callers:=cs,status:=.running,dying:=none } w=stepG.apply P true fr cs none (execOp fr.eval o) w)(b:(execOp fr.eval o).run P w=.ok .skip w'):step P (lone fr cs w)=.next (lone (fr.finish undef) cs w'):=step_lone_go (by rw[a];simp[stepG.apply,b])
theorem MA (a:stepG P true { frame:=fr,callers:=cs,status:=.running,dying:=none } w=stepG.apply P true fr cs none (execOp fr.eval o) w)(b:(execOp fr.eval o).run P w=.halt (.panic v) w'):step P (lone fr cs w)=.next (lone (fr.raise [{ v,recovered:=false }]) cs w'):=step_lone_go (by rw[a];simp[stepG.apply,b])
theorem MB {d:Deferred}(a:stepG P true { frame:=fr,callers:=cs,status:=.running,dying:=none } w=stepG.apply P true fr cs none (execOp fr.eval o) w)(b:(execOp fr.eval o).run P w=.ok (.defer d) w'):step P (lone fr cs w)=.next (lone ({ fr with defers:=d::fr.defers }.finish undef) cs w'):=step_lone_go (by rw[a];simp[stepG.apply,b])
variable {f : FuncId}
theorem AQ {args:Array Value}(a:stepG P true { frame:=fr,callers:=cs,status:=.running,dying:=none } w=stepG.apply P true fr cs none (execOp fr.eval o) w)(b:fr.todo=.inRegion all (i::rest)::k)(c:(execOp fr.eval o).run P w=.ok (.enter f args) w'):step P (lone fr cs w)=.next (lone (Frame.enter P f args .normal) (fr::cs) w'):=
 step_lone_go (by rw[a];simp[stepG.apply,c,b])
end
def ad.after (F:ad)(o:Oper)(v:AV)(all:Array Oper)(rest:List Nat)(k:List aC):ad:={ F.put o.dst v with todo:=.ops all rest::k }
theorem ad.iq (F:ad)(o:Oper)(v:AV)(all:Array Oper)(rest:List Nat)(k:List aC) :
  (F.after o v all rest k).kind=F.kind∧(F.after o v all rest k).fn=F.fn∧(F.after o v all rest k).round=F.round∧(F.after o v all rest k).cm=F.cm:=by
 have h:=F.Mz o.dst v
 have a:(F.put o.dst v).fn=F.fn:=by
  unfold ad.put ad.set
  split
  · split
    · split<;>rfl
    · rfl
  · rfl
 exact⟨h.1,a,h.2.2.2.2.1,h.2.1⟩
theorem mW.after {P:Program}{g:Gh}{F:ad}{fr:Frame}(h:mW P g F fr){all:Array Oper}{i:Nat}{rest:List Nat}{k:List aC}{m:List Item}{o:Oper}{v:AV}{x:Value}
  (a:fr.todo=.inRegion all (i::rest)::m) (b:mX g k m) (c:all[i]? = some o) (d:VR g v x):mW P g (F.after o v all rest k) (fr.finish x):=by
 rw[uX a c]
 exact(h.put d rfl).with (.cons .ops b)
variable {k : List aC}
theorem mW.split (h:mW P g F fr){l:List Nat}(a:F.todo=.ops all l::k):∃ m,fr.todo=.inRegion all l::m∧mX g k m:=by
 have:=h.todo
 rw[a] at this
 generalize b:fr.todo=td at this
 cases this with | cons h1 h2=>?_
 cases h1
 exact⟨_,rfl,h2⟩
theorem mW.runs (h:mW P g F fr)(a:F.mode=.run):fr.mode=.run:=by
 have:=h.mode
 rw[a] at this
 generalize fr.mode=b at this ⊢
 cases this;rfl
theorem mW.D0 (h:mW P g F fr)(a:F.round=none):fr.roundOf=none:=by
 have:=h.round
 rw[a] at this
 cases e:fr.roundOf with
 | none=>rfl
 | some b=>rw[e] at this;exact this.elim
section
variable {P : Program} {F : ad} {S : af} {G : ad → af → Prop} {all : Array Oper} {i : Nat} {rest : List Nat} {k : List aC} {o : Oper}
theorem Reach.AA (p:F.mode=.run)(q:F.todo=.ops all (i::rest)::k)(l:all[i]? = some o)(r:rP F all o=some false)(h:Reach P (F.after o (.bm []) all rest k) S G):Reach P F S G:=by
 obtain⟨a,b,c,d⟩:=F.iq o (.bm []) all rest k
 refine h.quiet a b c d fun g w fr cs j _=>?_
 obtain⟨m,n,s⟩:=j.split q
 exact⟨fr.finish undef,j.after n s l (.bm rfl (fun k a x e=>by simp at e)),vm (j.runs p) n l (kL j r)⟩
variable {S' : af}
theorem Reach.vD {F' : ad}(h:Reach P F' S' G)(m:F'.kind=F.kind)(p:F'.fn=F.fn)(q:F'.round=F.round)(r:F'.cm=F.cm)(s:∀ g w fr cs,mW P g F fr→Inv S g w→∃ d w' g', mW P g' F' d∧Inv S' g' w' ∧ Ext S g w S' g' w' ∧ Steps P (lone fr cs w) (lone d cs w')):Reach P F S G:=by
 intro g w fr e cs a b c
 obtain⟨d,w', g', t,u,n,x⟩:=s g w fr cs a c
 obtain⟨y,z,A,B,j,l,C,D,E,H,I,J,K,L,M⟩:=h g' w' d e cs t ((b.mono n.ng).congr m r) u
 exact⟨y,z,A,B,j,l,C,D,E,H.trans m,I.trans p,J.trans q,K,n.trans L,Steps.trans x M⟩
theorem Reach.Hf {v:AV}(q:F.mode=.run)(r:F.todo=.ops all (i::rest)::k)(n:all[i]? = some o)(s:rP F all o=some true)(l:bT o.op=false)(t:gi P F.eval S o.op=some (.val v S'))(h:Reach P (F.after o v all rest k) S' G):Reach P F S G:=by
 obtain⟨a,b,c,d⟩:=F.iq o v all rest k
 refine h.vD a b c d fun g w fr cs e hi=>?_
 obtain⟨m,p,u⟩:=e.split r
 obtain⟨x,w', g', y,z,A,j⟩:=jR hi (EL.of e) t
 exact⟨fr.finish x,w', g', (e.mono j.ng).after p (u.mono j.ng) n z,A,j,.one (w4 (gp (e.runs q) p n (kL e s) (.inr l)) y)⟩
theorem Reach.IP (r:F.mode=.run)(s:F.todo=.ops all (i::rest)::k)(p:all[i]? = some o)(t:rP F all o=some true)(n:bT o.op=false)(u:gi P F.eval S o.op=some (.skip S'))(h:Reach P (F.after o (.bm []) all rest k) S' G):Reach P F S G:=by
 obtain⟨a,b,c,d⟩:=F.iq o (.bm []) all rest k
 refine h.vD a b c d fun g w fr cs j hi=>?_
 obtain⟨m,q,y⟩:=j.split s
 obtain⟨w', g', z,A,l⟩:=jR hi (EL.of j) u
 exact⟨fr.finish undef,w', g', (j.mono l.ng).after q (y.mono l.ng) p (.bm rfl (fun k a x e=>by simp at e)),A,l,.one (yJ (gp (j.runs r) q p (kL j t) (.inr n)) z)⟩
theorem Reach.Xn {v:AV}(d:F.mode=.run)(e:F.todo=.ops all (i::rest)::k)(j:all[i]? = some o)(l:rP F all o=some true)(c:bT o.op=false)
  (n:gi P F.eval S o.op=some (.uh v)) (h:Reach P { F with mode:=.panicking [(v,false)] } S G):Reach P F S G:=by
 refine h.vD rfl rfl rfl rfl fun g w fr cs a hi=>?_
 obtain⟨m,p,s⟩:=a.split e
 obtain⟨x,q,r⟩:=jR hi (EL.of a) n
 have b:=a.runs d
 refine⟨fr.raise [{ v:=x,recovered:=false }],w,g,?_,hi,Ext.refl _ _ _,.one (MA (gp b p j (kL a l) (.inr c)) q)⟩
 have:fr.raise [{ v:=x,recovered:=false }]={ fr with mode:=.panicking [{ v:=x,recovered:=false }] }:=by simp[Frame.raise,b]
 rw[this]
 exact⟨a.fn,a.size,a.get,a.todo,a.defers,.panicking (.cons r .nil),a.kind,a.round⟩
variable {f : FuncId} {args : List AV}
theorem Reach.Xo {cap:List AV}(q:F.mode=.run)(r:F.todo=.ops all (i::rest)::k)(n:all[i]? = some o)(s:rP F all o=some true)(t:F.round=none)(u:gi P F.eval S o.op=some (.qT f cap args))(h:Reach P { F.after o (.bm []) all rest k with defers:=.call f cap args::F.defers } S G):Reach P F S G:=by
 obtain⟨a,b,c,d⟩:=F.iq o (.bm []) all rest k
 refine h.vD a b c d fun g w fr cs j hi=>?_
 obtain⟨m,p,y⟩:=j.split r
 obtain⟨ys,xs,z,A,B,C⟩:=jR hi (EL.of j) u
 have l:=j.runs q
 refine⟨_,w,g,?_,hi,Ext.refl _ _ _,.one (MB (gp l p n (kL j s) (.inl (j.D0 t))) z)⟩
 have h1:=j.after (v:=.bm []) (x:=undef) p y n (.bm rfl (fun k a x e=>by simp at e))
 have h2:({ fr with defers:={ target:=.fn (.func f) ys,args:=xs }::fr.defers }:Frame).finish undef={ fr.finish undef with defers:={ target:=.fn (.func f) ys,args:=xs }::fr.defers }:=by
  rw[uX p n]
  exact uX (fr:={ fr with defers:={ target:=.fn (.func f) ys,args:=xs }::fr.defers }) p n undef
 rw[h2]
 exact⟨h1.fn,h1.size,h1.get,h1.todo,.cons A B C j.defers,h1.mode,h1.kind,h1.round⟩
end
inductive ic where
 | ret (v : AV)
 | uh (chain : List (AV × Bool))
def K5 (g:Gh):ic→Ending→Prop
 | .ret v,.returned x=>VR g v x
 | .uh l,.panicked m=>hP g l m
 | _,_=>False
theorem K5.mono {g g' : Gh}(a:Gh.le g g'){r:ic}{e:Ending}(h:K5 g r e):K5 g' r e:=by
 cases r<;>cases e<;>first | exact VR.mono a h | exact hP.mono a h | exact h
def dc (P:Program)(f:FuncId)(args:List AV)(S:af)(Q:ic→af→Prop):Prop:=
 ∀ (g:Gh) (w:World) (xs:Array Value),fG g args xs→Inv S g w →
  Calls P f xs w fun e w' => ∃ r S' g', Q r S' ∧ K5 g' r e∧Inv S' g' w' ∧ Ext S g w S' g' w'
theorem dc.mono {P:Program}{f:FuncId}{args:List AV}{S:af}{Q c:ic→af→Prop}(h:dc P f args S Q)(d:∀ r S', Q r S' → c r S'):dc P f args S c:=
 fun g w xs hx hi=>(h g w xs hx hi).mono fun _ _ ⟨r,S', g', a,b⟩=>⟨r,S', g', d _ _ a,b⟩
def ad.back (F:ad)(o:Oper)(all:Array Oper)(rest:List Nat)(k:List aC):ic→ad
 | .ret v=>F.after o v all rest k
 | .uh l=>{ F with mode:=.panicking l }
variable {f : FuncId} {args : List AV}
theorem Reach.zS {S:af}{G:ad→af→Prop}{i:Nat}{rest:List Nat}{Q:ic→af→Prop}(U:F.mode=.run)(V:F.todo=.ops all (i::rest)::k)(R:all[i]? = some o)(W:rP F all o=some true)(H:bT o.op=false)(X:gi P F.eval S o.op=some (.call f args))(Y:dc P f args S Q)(h:∀ r S', Q r S' → Reach P (F.back o all rest k r) S' G):Reach P F S G:=by
 intro g w fr A cs z I hi
 obtain⟨m,E,Z⟩:=z.split V
 obtain⟨xs,r1,r2⟩:=jR hi (EL.of z) X
 have t:=z.runs U
 have s:=AQ (P:=P) (cs:=cs) (gp t E R (kL z W) (.inr H)) E r1
 obtain⟨e,w', B,⟨r,S', g', hq,b,J,hx⟩,j,_,n⟩:=Y g w xs r2 hi (fr::cs)
 have T:∀ p,step P (lone B (fr::cs) w')=.next (lone p cs w')→mW P g' (F.back o all rest k r) p→Steps P (lone (Frame.enter P f xs .normal) (fr::cs) w) (lone B (fr::cs) w') →
     ∃ F' u q y C D,G F' u∧mW P q F' C∧uf q F' A D∧F'.kind=F.kind∧F'.fn=F.fn∧F'.round=F.round∧Inv u q y∧Ext S g w u q y∧Steps P (lone fr cs w) (lone C D y):=by
   intro p K L M
   have a:(F.back o all rest k r).kind=F.kind∧(F.back o all rest k r).fn=F.fn∧(F.back o all rest k r).round=F.round∧(F.back o all rest k r).cm=F.cm:=by
     cases r with
     | ret v=>exact F.iq o v all rest k
     | uh l=>exact⟨rfl,rfl,rfl,rfl⟩
   obtain⟨F2,S2,g2,w2,N,O,q', p1,p2,p3,p4,p5,p6,p7,p8⟩:=h r S' hq g' w' p A cs L ((I.mono hx.ng).congr a.1 a.2.2.2) J
   exact⟨F2,S2,g2,w2,N,O,q', p1,p2,p3.trans a.1,p4.trans a.2.1,p5.trans a.2.2.1,p6,hx.trans p7,Steps.head s (Steps.trans M (Steps.head K p8))⟩
 cases r with
 | ret v=>
   cases e with
   | returned x=>exact T _ (step_leave_returned n) ((z.mono hx.ng).after E (Z.mono hx.ng) R b) j
   | panicked c=>exact b.elim
   | outgrown=>exact b.elim
 | uh l=>
   cases e with
   | returned x=>exact b.elim
   | panicked c=>
     refine T _ (step_leave_panicked n) ?_ j
     have d:=z.mono hx.ng
     have:fr.raise c={ fr with mode:=.panicking c }:=by simp[Frame.raise,t]
     rw[this]
     exact⟨d.fn,d.size,d.get,d.todo,d.defers,.panicking b,d.kind,d.round⟩
   | outgrown=>exact b.elim
end
end Go.Eng
namespace Go.Eng
noncomputable section
def tY (P:Program)(F:ad)(S:af):List ResultVar→Option (List AV)
 | []=>some []
 | .tmp t::r=>match F.get t with
   | some v=>match tY P F S r with
     | some l=>some (v::l)
     | none=>none
   | none=>none
 | .cell a t::r=>match F.get a with
   | some p=>match jN S p with
     | some cs=>match mI P t cs with
       | some v=>match tY P F S r with
         | some l=>some (v::l)
         | none=>none
       | none=>none
     | none=>none
   | none=>none
def sR (P:Program)(fn:Func)(F:ad)(S:af):Option AV:=
 match tY P F S fn.results.toList with
 | some [v]=>some v
 | some l=>some (.bm l)
 | none=>none
variable {P : Program} {F : ad} {S : af} {g : Gh} {w : World} {fr : Frame}
theorem HD (z:mW P g F fr)(hi:Inv S g w):∀ {d:List ResultVar} {l:List AV},tY P F S d=some l →
   ∃ xs,(d.mapM (fun | .tmp t=>pure (fr.tmps.getD t undef) | .cell a t=>do loadVar t (←asAddr (fr.tmps.getD a undef))):Sem (List Value)).run P w=.ok xs w∧fG g l xs.toArray:=by
 intro d
 induction d with
 | nil=>intro l h;simp only[tY,ar] at h;subst h;exact⟨[],by simp,fG.nil g⟩
 | cons r d A=>
   intro l h
   cases r with
   | tmp t=>
     simp only[tY] at h
     split at h<;>try (simp at h;done)
     rename_i v j
     split at h<;>simp only[ar,reduceCtorEq] at h
     rename_i l' k
     subst h
     obtain⟨xs,n,q⟩:=A k
     obtain⟨x,s,i⟩:=z.get t v j
     refine⟨x::xs,?_,fG.cons i q⟩
     have:fr.tmps.getD t undef=x:=by simp[Array.getD_eq_getD_getElem?, s]
     simp only[List.mapM_cons,Sem.run_bind,this,Sem.run_pure,Result.andThen_ok]
     rw[n];simp
   | cell a t=>
     simp only[tY] at h
     split at h<;>try (simp at h;done)
     rename_i p B
     split at h<;>try (simp at h;done)
     rename_i cs e
     split at h<;>try (simp at h;done)
     rename_i v j
     split at h<;>simp only[ar,reduceCtorEq] at h
     rename_i l' k
     subst h
     obtain⟨xs,n,q⟩:=A k
     obtain⟨x,s,i⟩:=z.get a p B
     obtain⟨y,C,D⟩:=xi (P:=P) hi e j i
     obtain⟨b,o,c,H,fz,rfl,_,_⟩:=uI hi e i
     refine⟨y::xs,?_,fG.cons D q⟩
     have:fr.tmps.getD a undef=.pointer (some ⟨b,o,none⟩):=by simp[Array.getD_eq_getD_getElem?, s]
     have u:(loadVar t ⟨b,o,none⟩).run P w=.ok y w:=by simpa [Instr.loadAt,Instr.sureAddr] using C
     have E:(asAddr (fr.tmps.getD a undef)).run P w=.ok ⟨b,o,none⟩ w:=by rw[this];rfl
     simp only[List.mapM_cons,Sem.run_bind,E,Sem.run_pure,Result.andThen_ok,u]
     rw[n];simp
variable {fn : Func}
theorem yL (s:mW P g F fr)(hi:Inv S g w){v:AV}(h:sR P fn F S=some v):∃ x,(results fn fr.tmps).run P w=.ok x w∧VR g v x:=by
 unfold sR at h
 have p:∀ l,tY P F S fn.results.toList=some l→∃ xs:List Value,(results fn fr.tmps).run P w=.ok (if h:xs.toArray.size=1 then xs.toArray[0] else .tuple xs.toArray) w∧fG g l xs.toArray:=by
   intro l e
   obtain⟨xs,j,d⟩:=HD s hi e
   refine⟨xs,?_,d⟩
   simp only[results,Sem.run_bind]
   rw[Array.mapM_eq_mapM_toList]
   simp only[Sem.run_map]
   refine(congrArg (fun r=>Result.andThen (Result.andThen r fun a w' => Result.ok a.toArray w') fun a w' => Sem.run P (pure (if h:a.size=1 then a[0] else Value.tuple a)) w') j).trans ?_
   simp
 split at h
 · rename_i u e
   simp only[ar] at h;subst h
   obtain⟨xs,j,d⟩:=p _ e
   obtain⟨x,q,t⟩:=d.get (k:=0) rfl
   have n:xs.toArray.size=1:=d.1.symm
   refine⟨x,?_,t⟩
   rw[j,dif_pos n]
   congr 1
   have:=Bx (xs:=xs.toArray) (i:=0) (by omega)
   rw[this] at q
   exact Option.some.inj q
 · rename_i l o e
   simp only[ar] at h;subst h
   obtain⟨xs,j,d⟩:=p _ e
   have n:¬ xs.toArray.size=1:=by
    intro n
    have h1:=d.1
    rw[n] at h1
    match l,h1 with
    | [v],_=>exact o v rfl
   exact⟨_,by rw[j,dif_neg n],.bm d.1 d.2⟩
 · simp at h
def K6 : Nat→List AV→List (Nat×AV)
 | _,[]=>[]
 | n,v::l=>(n,v)::K6 (n+1) l
theorem O4 (l:List AV):∀(n t:Nat),lk (K6 n l) t=if n≤t then l[t-n]? else none:=by
 induction l with
 | nil=>intro n t;simp[K6,oh]
 | cons v l i=>
   intro n t
   simp only[K6,gz]
   cases d:Nat.beq n t with
   | true=>
     have:n=t:=jK d
     subst this;simp
   | false=>
     have j:n≠t:=by intro e;subst e;rw[Nat.beq_refl] at d;simp at d
     simp only[i]
     by_cases h:n≤t
     · rw[if_pos h,if_pos (by omega),show t-n=(t-(n+1))+1 from by omega,List.getElem?_cons_succ]
     · rw[if_neg h,if_neg (by omega)]
def ad.enter (f n mask:Nat)(c:Code)(args:List AV)(kind:CallKind)(cm:de):ad:=
 { fn:=f,n:=max args.length n,mask:=mask,loc:=[],pW:=K6 0 args,todo:=[.code c],defers:=[],mode:=.run,kind:=kind,cm:=cm,round:=none }
theorem mW.enter {P:Program}{g:Gh}{f:FuncId}{fn:Func}{c:Code}{args:List AV}{xs:Array Value}{kind:CallKind}{cm:de}{mask:Nat}(d:P.funcs[f]? = some fn)(i:fn.body=some c)(hx:fG g args xs) :
   mW P g (ad.enter f fn.ntmps mask c args kind cm) (Frame.enter P f xs kind):=by
 refine⟨rfl,?_,?_,?_,.nil,.run,rfl,trivial⟩
 · have:=hx.1
   simp[Frame.enter,d,ad.enter];omega
 · intro t v e
   simp only[ad.get,ad.enter] at e
   split at e
   · rw[O4] at e
     simp only[Nat.zero_le,if_true,Nat.sub_zero] at e
     obtain⟨x,h,j⟩:=hx.get e
     refine⟨x,?_,j⟩
     simp only[Frame.enter]
     rw[Array.getElem?_append_left (Array.getElem?_eq_some_iff.1 h).1]
     exact h
   · simp[oh] at e
 · simp only[ad.enter,Frame.enter,d,Option.bind_some,i,Option.getD_some]
   exact .cons .code .nil
def Fin (P:Program)(fn:Func)(Q:ic→de→af→Prop)(F:ad)(S:af):Prop:=
 F.defers=[]∧((F.mode=.returning∧∃ v,sR P fn F S=some v∧Q (.ret v) F.cm S)∨∃ l,F.mode=.panicking l∧Q (.uh l) F.cm S)
theorem kB.DK {m:List Deferred}(h:kB P g [] m):m=[]:=by
 cases h;rfl
variable {f : FuncId} {c : Code} {args : List AV}
theorem dc.oO {Q:ic→af→Prop}(mask:Nat)(p:P.funcs[f]? = some fn)(H:fn.body=some c)(h:Reach P (ad.enter f fn.ntmps mask c args .normal .run) S (Fin P fn fun r _ o=>Q r o)):dc P f args S Q:=by
 intro g w xs hx hi cs
 obtain⟨F', o,g', w', e,y,⟨I,J⟩,k,q,K,L,T,s,C,D⟩:=h g w (Frame.enter P f xs .normal) cs cs (mW.enter p H hx) (by simp[uf,ad.enter]) hi
 have E:F'.kind=.normal:=K
 have z:y=cs:=by unfold uf at q;rw[E] at q;exact q
 subst z
 have i:e.fn=f:=k.fn.trans L
 have n:e.defers=[]:=by have:=k.defers;rw[I] at this;exact this.DK
 have A:e.kind=.normal:=k.kind.trans E
 have d:=k.mode
 rcases J with⟨t,v,M,u⟩ | ⟨l,t,u⟩
 · rw[t] at d
   obtain⟨x,N,O⟩:=yL k s M
   have j:e.mode=.returning:=by generalize e.mode=R at d ⊢;cases d;rfl
   exact⟨.returned x,w', e,⟨.ret v,o,g', u,O,s,C⟩,D,i,j,n,A,fn,by rw[i];exact p,N⟩
 · rw[t] at d
   obtain⟨m,j,B⟩:∃ m,e.mode=.panicking m∧hP g' l m:=by generalize e.mode=R at d ⊢;cases d with | panicking h=>exact⟨_,rfl,h⟩
   exact⟨.panicked m,w', e,⟨.uh l,o,g', u,B,s,C⟩,D,i,j,n,fn,by rw[i];exact p⟩
def abN (P:Program)(f:FuncId)(args:List AV)(S:af)(cm:de)(Q:ic→de→af→Prop):Prop:=
 ∀ (g:Gh) (w:World) (xs:Array Value) (u:FrameMode),fG g args xs→Inv S g w→mg g cm u →
  CallsD P f xs u w fun e i w' => ∃ r d h g', Q r d h∧K5 g' r e∧mg g' d i∧Inv h g' w' ∧ Ext S g w h g' w'
variable {Q : ic → de → af → Prop}
theorem abN.oO {cm:de}(mask:Nat)(p:P.funcs[f]? = some fn)(I:fn.body=some c)(h:Reach P (ad.enter f fn.ntmps mask c args .deferred cm) S (Fin P fn Q)):abN P f args S cm Q:=by
 intro g w xs u hx hi J c0 cs y
 obtain ⟨F', A,g', w', e,X,⟨K,L⟩,j,q,M,N,Y,r,B,C⟩:=h g w (Frame.enter P f xs .deferred) (c0::cs) (c0::cs) (mW.enter p I hx)
   (by simp only[uf,ad.enter];exact⟨c0,cs,u,rfl,by subst y;rfl,J⟩) hi
 have D:F'.kind=.deferred:=M
 unfold uf at q
 rw[D] at q
 obtain⟨c1,rest,m,E,O,H⟩:=q
 simp only[List.cons.injEq] at E
 obtain⟨rfl,rfl⟩:=E
 subst O
 have k:e.fn=f:=j.fn.trans N
 have n:e.defers=[]:=by have:=j.defers;rw[K] at this;exact this.DK
 have o:e.kind=.deferred:=j.kind.trans D
 have d:=j.mode
 rcases L with⟨s,v,R,t⟩ | ⟨l,s,t⟩
 · rw[s] at d
   obtain⟨x,T,U⟩:=yL j r R
   have i:e.mode=.returning:=by generalize e.mode=V at d ⊢;cases d;rfl
   exact⟨.returned x,m,w', e,⟨.ret v,F'.cm,A,g', t,U,H,r,B⟩,C,o,i,n,fn,by rw[k];exact p,T⟩
 · rw[s] at d
   obtain⟨W,i,z⟩:∃ m,e.mode=.panicking m∧hP g' l m:=by generalize e.mode=V at d ⊢;cases d with | panicking h=>exact⟨_,rfl,h⟩
   exact⟨.panicked W,m,w', e,⟨.uh l,F'.cm,A,g', t,z,H,r,B⟩,C,o,i,n,fn,by rw[k];exact p⟩
def wN : de→de
 | .panicking ((_,true)::_)=>.returning
 | m=>m
def wO (u:de)(chain:List (AV×Bool)):de:=
 match u with
 | .panicking rM=>.panicking (chain++rM)
 | _=>.panicking chain
variable {l : List (AV × Bool)} {m : List PanicEntry}
theorem hP.Xp (h:hP g l m):m.dropWhile (!·.goexit)=[]:=by
 induction h with
 | nil=>rfl
 | cons _ _ d=>simp[List.dropWhile,d]
variable {a : de} {b : FrameMode}
theorem B3 (h:mg g a b):mg g (wN a) (settle b):=by
 cases h with
 | run=>exact .run
 | returning=>exact .returning
 | panicking h=>
   cases h with
   | nil=>exact .panicking .nil
   | cons e d=>
     rename_i v x b l m
     cases b with
     | true=>simp only[wN,settle,d.Xp];exact .returning
     | false=>exact .panicking (.cons e d)
theorem hP.append {l' : List (AV×Bool)}{d:List PanicEntry}(h:hP g l m)(e:hP g l' d):hP g (l++l') (m++d):=by
 induction h with
 | nil=>exact e
 | cons i _ j=>exact .cons i j
theorem B4 (h:mg g a b)(d:hP g l m):mg g (wO a l) (raised b m):=by
 cases h with
 | run=>exact .panicking d
 | returning=>exact .panicking d
 | panicking h=>exact .panicking (d.append h)
def iJ (r:ic)(cm:de):de:=
 match r with
 | .ret _=>wN cm
 | .uh l=>wO cm l
variable {G : ad → af → Prop}
theorem Reach.unwind {cap:List AV}{ds:List gx}(hm:F.mode ≠ .run)(hd:F.defers=.call f cap args::ds)(hc:abN P f (args++cap) S F.mode Q)(h:∀ r cm I,Q r cm I→Reach P { F with defers:=ds,mode:=iJ r cm } I G):Reach P F S G:=by
 intro g w fr z cs J K hi
 have n:=J.defers
 rw[hd] at n
 generalize L:fr.defers=fd at n
 cases n with | cons H t u ht=>?_
 rename_i ys xs m
 have M:fr.mode ≠ .run:=by
   intro e
   have:=J.mode
   rw[e] at this
   generalize N:F.mode=y at this
   cases this
   exact hm N
 have h1:=step_defer (P:=P) (cs:=cs) (w:=w) (args:=xs++ys) (f:=f) M L rfl (by simp only[invoke];exact mj u)
 obtain⟨e,Z,w', A,⟨r,o,I,g', hq,i,B,O,hx⟩,d,R,C⟩:=hc g w (xs++ys) fr.mode (fG.append t H) hi J.mode { fr with defers:=m } cs rfl
 obtain⟨c2,p⟩:∃ c:Frame,c={ { fr with defers:=m } with mode:=Z }:=⟨_,rfl⟩
 rw[←p] at d
 have fin:∀ y,step P (lone A (c2::cs) w')=.next (lone { c2 with mode:=y } cs w')→mg g' (iJ r o) y →
    Steps P (lone (Frame.enter P f (xs++ys) .deferred) ({ fr with defers:=m }::cs) w) (lone A (c2::cs) w') →
    ∃ F' q k s D E,G F' q∧mW P k F' D∧uf k F' z E∧F'.kind=F.kind∧F'.fn=F.fn∧F'.round=F.round∧Inv q k s∧Ext S g w q k s∧Steps P (lone fr cs w) (lone D E s):=by
   intro y T U V
   have j:=J.mono hx.ng
   have W:mW P g' { F with defers:=ds,mode:=iJ r o } { c2 with mode:=y }:=by
    subst p
    exact⟨j.fn,j.size,j.get,j.todo,ht.mono hx.ng,U,j.kind,j.round⟩
   obtain⟨F2,S2,g2,w2,X,Y,q', p1,p2,p3,p4,p5,p6,p7,p8⟩:=h r o I hq g' w' { c2 with mode:=y } z cs W ((K.mono hx.ng).congr rfl rfl) O
   exact⟨F2,S2,g2,w2,X,Y,q', p1,p2,p3,p4,p5,p6,hx.trans p7,Steps.head h1 (Steps.trans V (Steps.head T p8))⟩
 have hu:c2.mode=Z:=by rw[p]
 cases r with
 | ret v=>
   cases e with
   | returned x=>exact fin _ (step_going_returned R C) (by rw[hu];exact B3 B) d
   | panicked c=>exact i.elim
   | outgrown=>exact i.elim
 | uh l=>
   cases e with
   | returned x=>exact i.elim
   | panicked c=>exact fin _ (step_going_panicked C) (by rw[hu];exact B4 B i) d
   | outgrown=>exact i.elim
def sV : de→Option (AV×de)
 | .panicking ((v,false)::d)=>some (v,.panicking ((v,true)::d))
 | _=>none
theorem Reach.L6 {all:Array Oper}{i:Nat}{rest:List Nat}{k:List aC}{o:Oper}(hm:F.mode=.run)(ht:F.todo=.ops all (i::rest)::k)(L:all[i]? = some o)(hg:rP F all o=some true)(K:F.kind=.deferred)(hr:F.round=none)(ha:gi P F.eval S o.op=some .Yg)(h:Reach P (match sV F.cm with
    | some (v,cm)=>{ F.after o v all rest k with cm:=cm }
    | none=>F.after o (.sc .nilIface) all rest k) S G):Reach P F S G:=by
 intro g w fr E cs n r hi
 obtain⟨m,M,e2⟩:=n.split ht
 have r1:(execOp fr.eval o).run P w=.ok .recover w:=jR hi (EL.of n) ha
 have J:=n.runs hm
 have s:=n.D0 hr
 have hs:=gp (P:=P) (cs:=cs) (w:=w) J M L (kL n hg) (.inl s)
 have hkd:fr.kind=.deferred:=n.kind.trans K
 have H:=tryRecover_deferred hkd cs
 unfold uf at r
 rw[K] at r
 obtain⟨c0,e,B,q1,N,D⟩:=r
 have gQ:=fun v=>F.iq o v all rest k
 cases d:sV F.cm with
 | some p=>
   obtain⟨v,cm⟩:=p
   rw[d] at h
   simp only at h
   unfold sV at d
   split at d<;>simp only[ar,iy,reduceCtorEq] at d
   rename_i q C hcm
   obtain⟨rfl,rfl⟩:=d
   rw[hcm] at D
   cases D with | panicking t=>?_
   cases t with | cons O I=>?_
   rename_i x R
   have u:recoverD cs=some (x,{ c0 with mode:=.panicking ({ v:=x,recovered:=true }::R) }::e):=by rw[N];rfl
   have y:step P (lone fr cs w)=.next (lone (fr.finish x) ({ c0 with mode:=.panicking ({ v:=x,recovered:=true }::R) }::e) w):=by
    refine step_lone_go ?_
    rw[hs];simp[stepG.apply,r1,s,H,u]
   have j:=n.after (v:=q) M e2 L O
   obtain ⟨T,U,V,W,z,A,X,Y,Z,p3,p4,p5,p6,p7,p8⟩:=h g w (fr.finish x) E ({ c0 with mode:=.panicking ({ v:=x,recovered:=true }::R) }::e)
    ⟨j.fn,j.size,j.get,j.todo,j.defers,j.mode,j.kind,j.round⟩
    (by unfold uf;rw[show({ F.after o q all rest k with cm:=de.panicking ((q,true)::C) }:ad).kind=.deferred from(gQ q).1.trans K];exact⟨c0,e,_,q1,rfl,.panicking (.cons O I)⟩) hi
   exact⟨T,U,V,W,z,A,X,Y,Z,p3.trans (gQ q).1,p4.trans (gQ q).2.1,p5.trans (gQ q).2.2.1,p6,p7,Steps.head y p8⟩
 | none=>
   rw[d] at h
   simp only at h
   have u:recoverD cs=none:=by
    rw[N]
    simp only[recoverD]
    generalize F.cm=acm at D d
    cases D with
    | run=>rfl
    | returning=>rfl
    | panicking t=>
      cases t with
      | nil=>rfl
      | cons O I=>
        rename_i v x b l m
        cases b with
        | false=>simp[sV] at d
        | true=>rfl
   have y:step P (lone fr cs w)=.next (lone (fr.finish .nilIface) cs w):=by
    refine step_lone_go ?_
    rw[hs];simp[stepG.apply,r1,s,H,u]
   have j:=n.after (v:=.sc .nilIface) (x:=.nilIface) M e2 L (.sc rfl)
   obtain ⟨T,U,V,W,z,A,X,Y,Z,p3,p4,p5,p6,p7,p8⟩:=h g w (fr.finish .nilIface) E cs j
    (by unfold uf;rw[(gQ (.sc .nilIface)).1.trans K,(gQ (.sc .nilIface)).2.2.2];exact⟨c0,e,B,q1,N,D⟩) hi
   exact⟨T,U,V,W,z,A,X,Y,Z,p3.trans (gQ _).1,p4.trans (gQ _).2.1,p5.trans (gQ _).2.2.1,p6,p7,Steps.head y p8⟩
end
end Go.Eng
namespace Go.Eng
noncomputable section
def Gh.cut (g:Gh)(n:Nat):Gh:={ ro:=g.ro,ph:=fun id=>if id<n then g.ph id else none }
variable {g : Gh} {n id : Nat} {l : Loc}
theorem Gh.jM (h:(g.cut n).ph id=some l):id<n∧g.ph id=some l:=by
 simp only[Gh.cut] at h
 split at h
 · exact⟨by assumption,h⟩
 · simp at h
theorem Gh.DL (a:id<n)(h:g.ph id=some l):(g.cut n).ph id=some l:=by simp[Gh.cut,a,h]
theorem Gh.Av (g:Gh)(n:Nat):Gh.le (g.cut n) g:=⟨fun _ _ e=>e,fun _ _ e=>(Gh.jM e).2⟩
theorem Gh.D1 {g' : Gh}(h:Gh.le g g'){m:Nat}(c:n≤m):Gh.le (g.cut n) (g'.cut m):=
 ⟨h.ro,fun _ _ e=>let ⟨a,b⟩:=Gh.jM e;Gh.DL (Nat.lt_of_lt_of_le a c) (h.ph _ _ b)⟩
def nh (P:Program)(all:Array Oper)(o:Oper)(get:Nat→Option AV)(E:af)(v:AV)(E' : af):Prop:=
 ∀ (g:Gh) (w:World) (fr:Frame) (cs:List Frame) (i:Nat) (rest:List Nat) (m:List Item),fr.mode=.run→fr.todo=.inRegion all (i::rest)::m→all[i]? = some o →
  (∀ t,t∈o.looksAt all→∀ u,get t=some u→∃ x,fr.tmps[t]? = some x∧VR g u x)→Inv E g w →
  ∃ w' g' x,Steps P (lone fr cs w) (lone (fr.finish x) cs w')∧VR g' v x∧Inv E' g' w' ∧ Ext E g w E' g' w'
section
variable (ops : Array Oper) (F : ad) (S : af) (pm : Nat → Nat → Bool) (E E' : Nat → af) (v : Nat → AV) (ch : Nat → Nat → Option (Option ak))
def nn : Nat→Nat
 | 0=>S.nx
 | i+1=>(E' i).nx
def tM (i:Nat):Option Tmp:=match ops[i]? with
 | some o=>o.dst
 | none=>none
def sv (X:Nat→Bool):Nat→Nat→Option (AV×Nat)
 | 0,t=>match F.get t with
   | some u=>some (u,S.nx)
   | none=>none
 | m+1,t=>if X m=true∧tM ops m=some t∧t<F.n then some (v m,nn S E' (m+1)) else sv X m t
def ov (X:Nat→Bool):Nat→Nat→Option (ak×Nat)
 | 0,id=>match S.get id with
   | some o=>some (o,S.nx)
   | none=>none
 | m+1,id=>if X m=true then match ch m id with
   | some (some o)=>some (o,nn S E' (m+1))
   | some none=>none
   | none=>ov X m id else ov X m id
structure DP (P : Program) (n : Nat) : Prop where
 Yi : ∀ i, i < n → (E i).nx = nn S E' i
 mono : ∀ i, i < n → (E i).nx ≤ (E' i).nx
 lim : ∀ i, i < n → S.lim ≤ (E i).lim
 acy : ∀ i, i < n → ∀ id o, (E i).get id = some o → ∃ st, ov S E' ch (pm i) i id = some (o, st)
 Hg : ∀ i, i < n → ∀ j, j < i → pm i j = false → ∀ id, ch j id ≠ none → (E i).get id = none
 L7 : ∀ i, i < n → ∀ j, j < n → i < j → pm j i = false → ∀ id, ch j id ≠ none → id < (E j).nx → (E i).get id = none
 aqo : ∀ i, i < n → ∀ id o, ch i id = some (some o) → (E' i).get id = some o
 aqp : ∀ i, i < n → ∀ id o, (E i).get id = some o → (E i).lim ≤ id → ch i id ≠ none
 YH : ∀ i, i < n → ∀ id, ch i id ≠ none → (E i).lim ≤ id ∧ id < (E' i).nx
 acz : ∀ i, i < n → ∀ id, ch i id ≠ none → (E i).get id ≠ none ∨ (E i).nx ≤ id
 op : ∀ i, i < n → ∃ o, ops[i]? = some o ∧ nh P ops o (fun t => match sv ops F S E' v (fun _ => true) i t with
  | some (u, _) => some u
  | none => none) (E i) (v i) (E' i)
structure DJ (X : Nat → Bool) (n : Nat) (g0 : Gh) (w0 : World) (fr0 : Frame) (g : Gh) (w : World) (fr : Frame) : Prop where
 uq : ∀ t u st, sv ops F S E' v X n t = some (u, st) → ∃ x, fr.tmps[t]? = some x ∧ VR (g.cut st) u x
 ob : ∀ id o st, ov S E' ch X n id = some (o, st) → ∃ l, (g.cut st).ph id = some l ∧ g.ro l.cd = none ∧ sH (g.cut st) l w.heap[l.cd]? o
 inj : ∀ id id' o o' st st' l l', ov S E' ch X n id = some (o, st) → ov S E' ch X n id' = some (o', st') → g.ph id = some l → g.ph id' = some l' → l.cd = l'.cd → id = id'
 ro : ∀ b c, g.ro b = some c → ∃ t fz, w.heap[b]? = some (.cells c t fz)
 YI : ∀ id l, g.ph id = some l → id < S.nx ∨ ∃ j, j < n ∧ X j = true ∧ nn S E' j ≤ id ∧ id < nn S E' (j + 1)
 size : w0.heap.size ≤ w.heap.size
 os : w.os = w0.os
 tape : ET w w0
 output : w.output = w0.output
 gQ : ∀ b, b < w0.heap.size → (∀ id o l, S.get id = some o → S.lim ≤ id → g0.ph id = some l → l.cd ≠ b) → w.heap[b]? = w0.heap[b]?
 own : ∀ id o st l, ov S E' ch X n id = some (o, st) → S.lim ≤ id → g.ph id = some l → l.cd < w0.heap.size → ∃ id0 o0 l0, S.get id0 = some o0 ∧ S.lim ≤ id0 ∧ g0.ph id0 = some l0 ∧ l0.cd = l.cd
 ng : Gh.le g0 g
 rM : ∀ id, id < S.nx → g.ph id = g0.ph id
 wC : ∀ b c, g.ro b = some c → b < w0.heap.size → g0.ro b = some c ∨ ∃ id0 o0 l0, S.get id0 = some o0 ∧ S.lim ≤ id0 ∧ g0.ph id0 = some l0 ∧ l0.cd = b
 fz : ∀ a, a.block < w0.heap.size → w.frozen? a = w0.frozen? a
 Fl : fr.tmps.size = F.n
 frame : fr = { fr0 with tmps := fr.tmps, todo := fr.todo }
end
section
variable {ops : Array Oper} {F : ad} {S : af} {pm : Nat → Nat → Bool} {E E' : Nat → af} {v : Nat → AV} {ch : Nat → Nat → Option (Option ak)}
def wD (X:Nat→Bool)(i:Nat):Nat→Bool:=fun j=>if j=i then true else X j
variable {P : Program} {i j : Nat}
theorem mD (h:DP ops F S pm E E' v ch P n)(b:i≤j)(c:j≤n):nn S E' i≤nn S E' j:=by
 induction j with
 | zero => have:i=0:=by omega
           subst this;exact Nat.le_refl _
 | succ j a=>
   by_cases e:i=j+1
   · subst e;exact Nat.le_refl _
   · have h1:=a (by omega) (by omega)
     have h2:=h.mono j (by omega)
     rw[h.Yi j (by omega)] at h2
     exact Nat.le_trans h1 h2
variable {X : Nat → Bool}
theorem MC (h:DP ops F S pm E E' v ch P n):∀ {m:Nat},m≤n→∀ {t u st},sv ops F S E' v X m t=some (u,st)→st≤nn S E' m:=by
 intro m
 induction m with
 | zero=>
   intro _ t u st e
   simp only[sv] at e
   split at e<;>simp only[ar,iy,reduceCtorEq] at e
   rw[←e.2];exact Nat.le_refl _
 | succ m a=>
   intro b t u st e
   simp only[sv] at e
   split at e
   · simp only[ar,iy] at e
     rw[←e.2];exact Nat.le_refl _
   · exact Nat.le_trans (a (by omega) e) (mD h (by omega) b)
theorem FB (h:DP ops F S pm E E' v ch P n):∀ {m:Nat},m≤n→∀ {id o st},ov S E' ch X m id=some (o,st)→st≤nn S E' m:=by
 intro m
 induction m with
 | zero=>
   intro _ t u st e
   simp only[ov] at e
   split at e<;>simp only[ar,iy,reduceCtorEq] at e
   rw[←e.2];exact Nat.le_refl _
 | succ m a=>
   intro b t u st e
   have up:∀ {x},x≤nn S E' m→x≤nn S E' (m+1):=fun hx=>Nat.le_trans hx (mD h (by omega) b)
   simp only[ov] at e
   split at e
   · split at e
     · simp only[ar,iy] at e
       rw[←e.2];exact Nat.le_refl _
     · simp at e
     · exact up (a (by omega) e)
   · exact up (a (by omega) e)
theorem Qb (h:DP ops F S pm E E' v ch P n)(c:∀ id o,S.get id=some o→id<S.nx):∀ {m:Nat},m≤n→∀ {id o st},ov S E' ch X m id=some (o,st)→id<st:=by
 intro m
 induction m with
 | zero=>
   intro _ id o st e
   simp only[ov] at e
   split at e<;>simp only[ar,iy,reduceCtorEq] at e
   rename_i o' a
   rw[←e.2];exact c _ _ a
 | succ m b=>
   intro d id o st e
   simp only[ov] at e
   split at e
   · split at e
     · rename_i o' a
       simp only[ar,iy] at e
       rw[←e.2];exact(h.YH m (by omega) id (by rw[a];simp)).2
     · simp at e
     · exact b (by omega) e
   · exact b (by omega) e
theorem O5 (h:DP ops F S pm E E' v ch P n):∀ {m:Nat},m≤n→id<S.nx→S.get id=none→∀ {X:Nat→Bool},ov S E' ch X m id=none:=by
 intro m
 induction m with
 | zero=>intro _ _ e X;simp only[ov,e]
 | succ m c=>
   intro f aQ e X
   simp only[ov]
   have hi:=@c (by omega) aQ e
   split
   · cases d:ch m id with
     | none=>exact hi
     | some r=>
       exfalso
       rcases h.acz m (by omega) id (by rw[d];simp) with q | q
       · cases a:(E m).get id with
         | none=>exact q a
         | some o=>
           obtain⟨st,b⟩:=h.acy m (by omega) id o a
           rw[hi] at b;simp at b
       · rw[h.Yi m (by omega)] at q
         have h0:=mD h (Nat.zero_le m) (by omega)
         have:nn S E' 0=S.nx:=rfl
         omega
   · exact hi
variable {Y : Nat → Bool} {t : Nat}
theorem AB : ∀ {m:Nat},(∀ j,j<m→tM ops j=some t→X j=Y j)→sv ops F S E' v X m t=sv ops F S E' v Y m t:=by
 intro m
 induction m with
 | zero=>intro _;rfl
 | succ m a=>
   intro h
   simp only[sv]
   by_cases b:tM ops m=some t
   · rw[h m (by omega) b,a fun j c=>h j (by omega)]
   · simp only[b,false_and,and_false,if_false];exact a fun j c=>h j (by omega)
theorem w5 : ∀ {m:Nat},(∀ j,j<m→ch j id≠none→X j=Y j)→ov S E' ch X m id=ov S E' ch Y m id:=by
 intro m
 induction m with
 | zero=>intro _;rfl
 | succ m a=>
   intro h
   simp only[ov]
   by_cases b:ch m id=none
   · simp only[b,ite_self];exact a fun j c=>h j (by omega)
   · rw[h m (by omega) b,a fun j c=>h j (by omega)]
theorem Iz : ∀ {m:Nat},i≤m→(∀ j,i≤j→j<m→X j=true→tM ops j≠some t)→sv ops F S E' v X m t=sv ops F S E' v X i t:=by
 intro m
 induction m with
 | zero => intro hi _;have:i=0:=by omega
           subst this;rfl
 | succ m c=>
   intro hi h
   by_cases e:i=m+1
   · subst e;rfl
   · simp only[sv]
     rw[if_neg]
     · exact c (by omega) fun j a b=>h j a (by omega)
     · rintro⟨a,b,_⟩;exact h m (by omega) (by omega) a b
theorem Fm : ∀ {m:Nat},i≤m→(∀ j,i≤j→j<m→X j=true→ch j id=none)→ov S E' ch X m id=ov S E' ch X i id:=by
 intro m
 induction m with
 | zero => intro hi _;have:i=0:=by omega
           subst this;rfl
 | succ m c=>
   intro hi h
   by_cases e:i=m+1
   · subst e;rfl
   · simp only[ov]
     split
     · rename_i a
       rw[h m (by omega) (by omega) a]
       exact c (by omega) fun j a b=>h j a (by omega)
     · exact c (by omega) fun j a b=>h j a (by omega)
theorem Xq (a:¬ t<F.n):∀ {m:Nat},sv ops F S E' v X m t=sv ops F S E' v Y m t:=by
 intro m
 induction m with
 | zero=>rfl
 | succ m b=>simp only[sv,a,and_false,if_false];exact b
theorem qV (X:Nat→Bool)(i:Nat):wD X i i=true:=by simp[wD]
theorem pc (X:Nat→Bool)(h:j≠i):wD X i j=X j:=by simp[wD,h]
variable {g0 : Gh} {w0 w : World} {fr0 fr : Frame} {cs : List Frame} {m : List Item}
theorem DJ.step (h:DP ops F S pm E E' v ch P n)(hn:n≤ops.size)(hap:∀ i j oi oj,i<n→j<i→pm i j=false→ops[i]? = some oi→ops[j]? = some oj→oi.apart ops oj=true)(hS:∀ id o,S.get id=some o→id<S.nx)(z:DJ ops F S E' v ch X n g0 w0 fr0 g w fr)(hi:i<n)(hX:X i=false)(hcl:∀ j,X j=true→j<n∧∀ k,pm j k=true→X k=true)(hrd:∀ j,pm i j=true→X j=true){rest:List Nat}(hmode:fr0.mode=.run)(ht:fr.todo=.inRegion ops (i::rest)::m) :
   ∃ fr' w' g', Steps P (lone fr cs w) (lone fr' cs w')∧fr'.todo=.inRegion ops rest::m∧DJ ops F S E' v ch (wD X i) n g0 w0 fr0 g' w' fr' := by
 obtain⟨o,ho,hop⟩:=h.op i hi
 have hin:nn S E' i≤nn S E' (i+1):=mD h (by omega) (by omega)
 have hX' : ∀ j,X j=true→j≠i∧pm j i=false:=by
   intro j a
   refine⟨fun e=>(by subst e;rw[hX] at a;simp at a),?_⟩
   cases e:pm j i with
   | false=>rfl
   | true=>rw[(hcl j a).2 i e] at hX;simp at hX
 have mdE:∀ j,j<n→∃ oj,ops[j]? = some oj:=fun j z=>⟨_,Bx (Nat.lt_of_lt_of_le z hn)⟩
 have hslot:∀ t,t∈o.looksAt ops→sv ops F S E' v X n t=sv ops F S E' v (fun _=>true) i t:=by
   intro t hlk
   rw[Iz (i:=i) (by omega)]
   · refine AB fun j hji hd=>?_
     cases e:pm i j with
     | true=>exact hrd j e
     | false=>
       obtain⟨oj,Q⟩:=mdE j (by omega)
       have hd' : oj.dst=some t:=by simpa [tM,Q] using hd
       exact absurd hlk ((Oper.apart_spec (hap i j o oj hi hji e ho Q)).2.2 t hd')
   · intro j hij C J hd
     have G:=hX' j J
     have D:i<j:=by omega
     obtain⟨oj,Q⟩:=mdE j C
     have hd' : oj.dst=some t:=by simpa [tM,Q] using hd
     exact absurd hlk ((Oper.apart_spec (hap j i oj o C D G.2 Q ho)).1 t hd')
 have hsee:∀ id ob,(E i).get id=some ob→∃ st,ov S E' ch X n id=some (ob,st)∧st≤nn S E' i:=by
   intro id ob e
   obtain⟨st,M⟩:=h.acy i hi id ob e
   have hst:=FB h (by omega:i≤n) M
   have hidst:=Qb h hS (by omega:i≤n) M
   refine⟨st,?_,hst⟩
   rw[←M,Fm (i:=i) (by omega)]
   · refine w5 fun j hji I=>?_
     cases e' : pm i j with
     | true=>exact hrd j e'
     | false=>exact absurd (h.Hg i hi j hji e' id I) (by rw[e];simp)
   · intro j hij C J
     have G:=hX' j J
     have D:i<j:=by omega
     cases I:ch j id with
     | none=>rfl
     | some r=>
       exfalso
       have hlo:id<(E j).nx:=by
         rw[h.Yi j C]
         have:=mD h (show i≤j by omega) (by omega)
         omega
       have:=h.L7 i hi j C D G.2 id (by rw[I];simp) hlo
       rw[this] at e;simp at e
 have hnxi:=h.Yi i hi
 have hinv:Inv (E i) (g.cut (nn S E' i)) w:=by
   refine⟨z.ro,?_,?_,?_⟩
   · intro id ob e
     obtain⟨st,M,e2⟩:=hsee id ob e
     obtain⟨l,a,b,c⟩:=z.ob id ob st M
     have hm:=Gh.D1 (Gh.le_refl g) e2
     exact⟨l,hm.ph _ _ a,b,c.mono hm⟩
   · intro id id' o1 o2 l l' e e' p p' N
     obtain⟨st,M,_⟩:=hsee id o1 e
     obtain⟨st', e1', _⟩:=hsee id' o2 e'
     exact z.inj id id' o1 o2 st st' l l' M e1' (Gh.jM p).2 (Gh.jM p').2 N
   · intro id aQ
     rw[hnxi] at aQ
     simp[Gh.cut,show ¬ id<nn S E' i by omega]
 have hmd:fr.mode=.run:=by rw[z.frame];exact hmode
 obtain ⟨w', g1,x,hs,hv,R,hx⟩:=hop (g.cut (nn S E' i)) w fr cs i rest m hmd ht ho (by
   intro t hlk u e
   simp only[←hslot t hlk] at e
   split at e<;>simp only[ar,reduceCtorEq] at e
   rename_i u' st e'
   subst e
   obtain⟨x,M,e2⟩:=z.uq t _ st e'
   refine⟨x,M,e2.mono (Gh.D1 (Gh.le_refl g) ?_)⟩
   rw[hslot t hlk] at e'
   exact MC h (by omega) e') hinv
 have K:∀ {a b},a≤b→b≤n→nn S E' a≤nn S E' b:=fun hab N=>mD h hab N
 have hnx0:S.nx≤nn S E' i:=by have:=K (show 0≤i by omega) (by omega);exact this
 obtain⟨gn,hgn⟩:∃ k:Gh,k={ ro:=g1.ro,ph:=fun id=>if nn S E' i≤id∧id<nn S E' (i+1) then g1.ph id else g.ph id }:=⟨_,rfl⟩
 have H:gn.ro=g1.ro:=by rw[hgn]
 have hgin:∀ {id},nn S E' i≤id→id<nn S E' (i+1)→gn.ph id=g1.ph id:=by intro id a b;rw[hgn];simp[a,b]
 have L:∀ {id},¬ (nn S E' i≤id∧id<nn S E' (i+1))→gn.ph id=g.ph id:=by intro id a;rw[hgn];simp[a]
 have hle:Gh.le g gn:=by
   refine⟨fun b c e=>by rw[H];exact hx.ng.ro b c e,fun id l e=>?_⟩
   rw[L]
   · exact e
   · rintro⟨a,b⟩
     rcases z.YI id l e with q | ⟨j,q1,O,q3,q4⟩
     · omega
     · have G:=(hX' j O).1
       rcases Nat.lt_or_ge j i with k | k
       · have:=K (show j+1≤i by omega) (by omega);omega
       · have:=K (show i+1≤j by omega) (by omega);omega
 have U:Gh.le g1 (gn.cut (nn S E' (i+1))):=by
   refine⟨fun b c e=>by show gn.ro b=some c;rw[H];exact e,fun id l e=>?_⟩
   have D:id<nn S E' (i+1):=R.CA e
   refine Gh.DL D ?_
   by_cases N:nn S E' i≤id
   · rw[hgin N D];exact e
   · rw[L (by omega)]
     have:=hx.rM id (by rw[hnxi];omega)
     rw[this] at e
     exact(Gh.jM e).2
 have hwr:∀ s o0 B,(E i).get s=some o0→(E i).lim≤s→(g.cut (nn S E' i)).ph s=some B→ch i s≠none∧g.ph s=some B∧S.lim≤s∧∃ st,ov S E' ch X n s=some (o0,st):=
   fun s o0 B M e2 e3=>⟨h.aqp i hi s o0 M e2,(Gh.jM e3).2,Nat.le_trans (h.lim i hi) e2,let ⟨st,a,_⟩:=hsee s o0 M;⟨st,a⟩⟩
 have hov_ch:∀ {id r},ch i id=some r→ov S E' ch (wD X i) n id=match r with
     | some ob=>some (ob,nn S E' (i+1))
     | none=>none:=by
   intro id r hr
   rw[Fm (i:=i+1) (by omega)]
   · simp only[ov,qV,if_true,hr]
     cases r<;>rfl
   · intro j hij C J
     rw[pc X (by omega)] at J
     have G:=hX' j J
     cases I:ch j id with
     | none=>rfl
     | some r' =>
       exfalso
       rcases h.acz j C id (by rw[I];simp) with q | q
       · exact q (h.Hg j C i (by omega) G.2 id (by rw[hr];simp))
       · have h1:=(h.YH i hi id (by rw[hr];simp)).2
         have h2:=K (show i+1≤j by omega) (by omega)
         rw[h.Yi j C] at q
         have h3:nn S E' (i+1)=(E' i).nx:=rfl
         omega
 have A:∀ {id},ch i id=none→ov S E' ch (wD X i) n id=ov S E' ch X n id:=by
   intro id I
   refine w5 fun j _ hcj=>?_
   by_cases e:j=i
   · subst e;exact absurd I hcj
   · exact pc X e
 have hun:∀ {id ob st},ch i id=none→ov S E' ch X n id=some (ob,st)→∃ l,(g.cut st).ph id=some l∧l.cd<w.heap.size∧sH (g.cut st) l w.heap[l.cd]? ob∧g.ro l.cd=none ∧
     (∀ s o0 B,(E i).get s=some o0→(E i).lim≤s→(g.cut (nn S E' i)).ph s=some B→B.cd≠l.cd):=by
   intro id ob st I e
   obtain⟨l,a,b,c⟩:=z.ob id ob st e
   refine⟨l,a,c.lt,c,b,fun s o0 B M e2 e3 eb=>?_⟩
   obtain⟨q1,O,q3,V,q4⟩:=hwr s o0 B M e2 e3
   have:=z.inj s id o0 ob V st B l q4 e O (Gh.jM a).2 eb
   subst this;exact q1 I
 have T:∀ {id ob st},ch i id≠none→ov S E' ch (wD X i) n id=some (ob,st)→st=nn S E' (i+1)∧(E' i).get id=some ob∧(E i).lim≤id:=by
   intro id ob st I e
   cases hr:ch i id with
   | none=>exact absurd hr I
   | some r=>
     rw[hov_ch hr] at e
     cases r with
     | none=>simp at e
     | some ob' =>
       simp only[ar,iy] at e
       obtain⟨rfl,rfl⟩:=e
       exact⟨rfl,h.aqo i hi id _ hr,(h.YH i hi id I).1⟩
 have hfin:=uX ht ho x
 have hgst:∀ {st},Gh.le (g.cut st) (gn.cut st):=Gh.D1 hle (Nat.le_refl _)
 refine⟨fr.finish x,w', gn,hs,by rw[hfin],?_⟩
 have hown:∀ id o st l,ov S E' ch (wD X i) n id=some (o,st)→S.lim≤id→gn.ph id=some l→l.cd<w0.heap.size→∃ s o0 B,S.get s=some o0∧S.lim≤s∧g0.ph s=some B∧B.cd=l.cd:=by
   intro id ob st l e hlim hl D
   by_cases I:ch i id=none
   · rw[A I] at e
     obtain⟨l', a,_⟩:=z.ob id ob st e
     have hl' := hle.ph _ _ (Gh.jM a).2
     rw[hl] at hl';simp only[ar] at hl';subst hl'
     exact z.own id ob st l e hlim (Gh.jM a).2 D
   · obtain⟨_,O,q3⟩:=T I e
     obtain⟨l1,r1,_,_⟩:=R.ob id ob O
     have W:=(Gh.jM (U.ph _ _ r1)).2
     rw[hl] at W;simp only[ar] at W;subst W
     obtain⟨s,o0,B,f1,f2,f3,f4⟩:=hx.own id ob l O q3 r1 (Nat.lt_of_lt_of_le D z.size)
     obtain⟨_,p2,p3,V,p4⟩:=hwr s o0 B f1 f2 f3
     obtain⟨id1,o1,l1,z1,z2,z3,z4⟩:=z.own s o0 V B p4 p3 p2 (f4▸D)
     exact⟨id1,o1,l1,z1,z2,z3,z4.trans f4⟩
 refine⟨?_,?_,?_,?_,?_,Nat.le_trans z.size hx.size,hx.os.trans z.os,ET.trans hx.tape z.tape,hx.output.trans z.output,?_,hown,Gh.le_trans z.ng hle,?_,?_,?_,?_,?_⟩
 · intro t u st e
   rw[hfin]
   by_cases hd:tM ops i=some t∧t<F.n
   · obtain⟨hd,htn⟩:=hd
     have hdo:o.dst=some t:=by simpa [tM,ho] using hd
     rw[Iz (i:=i+1) (by omega)] at e
     · simp only[sv,qV,hd,htn,and_self,if_true,ar,iy] at e
       obtain⟨rfl,rfl⟩:=e
       exact⟨x,by simp[hdo,z.Fl,htn],hv.mono U⟩
     · intro j hij C J hdj
       rw[pc X (by omega)] at J
       have G:=hX' j J
       obtain⟨oj,Q⟩:=mdE j C
       have hd' : oj.dst=some t:=by simpa [tM,Q] using hdj
       exact(Oper.apart_spec (hap j i oj o C (by omega) G.2 Q ho)).2.1 t hd' hdo
   · have hsame:sv ops F S E' v (wD X i) n t=sv ops F S E' v X n t:=by
       by_cases htn:t<F.n
       · refine AB fun j _ hdj=>?_
         by_cases e:j=i
         · subst e;exact absurd ⟨hdj,htn⟩ hd
         · exact pc X e
       · exact Xq htn
     rw[hsame] at e
     obtain⟨y,y1,y2⟩:=z.uq t u st e
     refine⟨y,?_,y2.mono hgst⟩
     cases hdo:o.dst with
     | none=>exact y1
     | some d=>
       simp only[Array.getElem?_setIfInBounds]
       by_cases hdt:d=t
       · subst hdt
         exfalso
         have D:=(Array.getElem?_eq_some_iff.1 y1).1
         exact hd ⟨by simp[tM,ho,hdo],by rw[←z.Fl];exact D⟩
       · rw[if_neg hdt];exact y1
 · intro id ob st e
   by_cases I:ch i id=none
   · rw[A I] at e
     obtain⟨l,a,b,c,d,f⟩:=hun I e
     refine⟨l,hgst.ph _ _ a,?_,?_⟩
     · rw[H]
       cases hr:g1.ro l.cd with
       | none=>rfl
       | some cc=>
         exfalso
         rcases hx.wC l.cd cc hr b with q | ⟨s,o0,B,f1,f2,f3,f4⟩
         · have q' : g.ro l.cd=some cc:=q
           rw[d] at q';simp at q'
         · exact f s o0 B f1 f2 f3 f4
     · rw[hx.gQ l.cd b f];exact c.mono hgst
   · obtain⟨rfl,O,q3⟩:=T I e
     obtain⟨l1,r1,r2,r3⟩:=R.ob id ob O
     exact⟨l1,U.ph _ _ r1,by rw[H];exact r2,r3.mono U⟩
 · have key:∀ a b oa ob sa sb la lb,ch i a≠none→ch i b=none→ov S E' ch (wD X i) n a=some (oa,sa)→ov S E' ch (wD X i) n b=some (ob,sb)→gn.ph a=some la→gn.ph b=some lb→la.cd=lb.cd→False:=by
     intro a b oa ob sa sb la lb ca cb ea eb pa pb Z
     rw[A cb] at eb
     obtain⟨l,z1,z2,z3,z4,z5⟩:=hun cb eb
     have:=(Gh.jM (hgst.ph _ _ z1)).2
     rw[pb] at this;simp only[ar] at this;subst this
     obtain⟨_,O,q3⟩:=T ca ea
     obtain⟨l1,r1,_,_⟩:=R.ob a oa O
     have W:=(Gh.jM (U.ph _ _ r1)).2
     rw[pa] at W;simp only[ar] at W;subst W
     obtain⟨s,o0,B,f1,f2,f3,f4⟩:=hx.own a oa la O q3 r1 (Z▸z2)
     exact z5 s o0 B f1 f2 f3 (f4.trans Z)
   intro a b oa ob sa sb la lb ea eb pa pb Z
   by_cases ca:ch i a=none<;>by_cases cb:ch i b=none
   · rw[A ca] at ea;rw[A cb] at eb
     obtain⟨l,z1,_⟩:=z.ob a oa sa ea
     obtain⟨l', z1', _⟩:=z.ob b ob sb eb
     have h1:=hle.ph _ _ (Gh.jM z1).2
     have h2:=hle.ph _ _ (Gh.jM z1').2
     rw[pa] at h1;rw[pb] at h2;simp only[ar] at h1 h2;subst h1;subst h2
     exact z.inj a b oa ob sa sb la lb ea eb (Gh.jM z1).2 (Gh.jM z1').2 Z
   · exact(key b a ob oa sb sa lb la cb ca eb ea pb pa Z.symm).elim
   · exact(key a b oa ob sa sb la lb ca cb ea eb pa pb Z).elim
   · obtain⟨_,O,_⟩:=T ca ea
     obtain⟨_,q2', _⟩:=T cb eb
     obtain⟨l1,r1,_,_⟩:=R.ob a oa O
     obtain⟨l2,r2,_,_⟩:=R.ob b ob q2'
     have h1:=(Gh.jM (U.ph _ _ r1)).2
     have h2:=(Gh.jM (U.ph _ _ r2)).2
     rw[pa] at h1;rw[pb] at h2;simp only[ar] at h1 h2;subst h1;subst h2
     exact R.inj a b oa ob la lb O q2' r1 r2 Z
 · intro b c e;exact R.ro b c (by rw[←H];exact e)
 · intro id l e
   by_cases N:nn S E' i≤id∧id<nn S E' (i+1)
   · exact .inr ⟨i,hi,qV X i,N.1,N.2⟩
   · rw[L N] at e
     rcases z.YI id l e with q | ⟨j,q1,O,q3,q4⟩
     · exact .inl q
     · exact .inr ⟨j,q1,by rw[pc X (hX' j O).1];exact O,q3,q4⟩
 · intro b N G
   rw[hx.gQ b (Nat.lt_of_lt_of_le N z.size) ?_,z.gQ b N G]
   intro s o0 B M e2 e3 e4
   obtain⟨_,p2,p3,V,p4⟩:=hwr s o0 B M e2 e3
   obtain⟨id1,o1,l1,z1,z2,z3,z4⟩:=z.own s o0 V B p4 p3 p2 (e4▸N)
   exact G id1 o1 l1 z1 z2 z3 (z4.trans e4)
 · intro id aQ
   rw[L (by omega)];exact z.rM id aQ
 · intro b c e N
   rw[H] at e
   rcases hx.wC b c e (Nat.lt_of_lt_of_le N z.size) with q | ⟨s,o0,B,M,e2,e3,e4⟩
   · exact z.wC b c q N
   · obtain⟨_,p2,p3,V,p4⟩:=hwr s o0 B M e2 e3
     obtain⟨id1,o1,l1,z1,z2,z3,z4⟩:=z.own s o0 V B p4 p3 p2 (e4▸N)
     exact .inr ⟨id1,o1,l1,z1,z2,z3,z4.trans e4⟩
 · exact fun a ha=>(hx.fz a (Nat.lt_of_lt_of_le ha z.size)).trans (z.fz a ha)
 · rw[hfin]
   cases o.dst<;>simp[z.Fl]
 · have:=z.frame
   rw[hfin]
   rw[this]
theorem O6 : ∀(l:List Bool) (i:Nat),l[i]? = some false→(l.set i true).count false+1=l.count false:=by
 intro l
 induction l with
 | nil=>intro i h;simp at h
 | cons b l a=>
   intro i h
   cases i with
   | zero=>simp at h;subst h;simp
   | succ i=>
     have:=a i (by simpa using h)
     simp only[List.set_cons_succ,List.count_cons]
     omega
theorem DJ.congr (a:∀ j,j<n→X j=Y j)(h:DJ ops F S E' v ch X n g0 w0 fr0 g w fr):DJ ops F S E' v ch Y n g0 w0 fr0 g w fr:=by
 have h1:∀ t,sv ops F S E' v Y n t=sv ops F S E' v X n t:=fun t=>(AB fun j c _=>a j c).symm
 have h2:∀ id,ov S E' ch Y n id=ov S E' ch X n id:=fun id=>(w5 fun j c _=>a j c).symm
 refine ⟨fun t u st e=>h.uq t u st (h1 t▸e),fun id o st e=>h.ob id o st (h2 id▸e),fun id b o o' st d l l' e k=>h.inj id b o o' st d l l' (h2 id▸e) (h2 b▸k),h.ro,fun id l e=>?_,h.size,h.os,h.tape,h.output,h.gQ,
  fun id o st l e=>h.own id o st l (h2 id▸e),h.ng,h.rM,h.wC,h.fz,h.Fl,h.frame⟩
 rcases h.YI id l e with q | ⟨j,f,p,r⟩
 · exact .inl q
 · exact .inr ⟨j,f,by rw[←a j f];exact p,r⟩
structure CD (ops : Array Oper) (pm : Nat → Nat → Bool) : Prop where
 low : ∀ i o e, ops[i]? = some o → e ∈ o.after → Region.binds .any e = true → e.on < i
 up : ∀ i j, pm i j = true → ∃ o e, ops[i]? = some o ∧ e ∈ o.after ∧ Region.binds .any e = true ∧ (e.on = j ∨ pm e.on j = true)
theorem MD {bj:Array Bool}(k:CD ops pm)(o:bj.size=ops.size):∀(i:Nat),bj.toList[i]? = some false→∃ j,j∈Region.ready .any ops bj:=by
 intro i
 induction i using Nat.strongRecOn with
 | _ i p=>
   intro q
   have a:bj[i]? = some false:=by simpa using q
   have c:i<ops.size:=by rw[←o];exact(Array.getElem?_eq_some_iff.1 a).1
   have d:ops[i]? = some ops[i]:=Bx c
   by_cases h:∀ e∈ops[i].after,Region.binds .any e=true→bj.getD e.on false=true
   · exact⟨i,mem_ready.2 ⟨by simp[Array.getD_eq_getD_getElem?, a],_,d,h⟩⟩
   · have:∃ e,e∈ops[i].after∧Region.binds .any e=true∧¬ bj.getD e.on false=true:=by
      refine Classical.byContradiction fun r=>h fun e h1 h2=>Classical.byContradiction fun h3=>r ⟨e,h1,h2,h3⟩
     obtain⟨e,s,u,x⟩:=this
     have y:=k.low i _ e d s u
     have b:e.on<bj.size:=by omega
     refine p e.on y ?_
     have z:bj[e.on]? = some bj[e.on]:=Bx b
     cases f:bj[e.on] with
     | false=>simp[b,f]
     | true=>exact absurd (by simp[Array.getD_eq_getD_getElem?, z,f]) x
theorem DJ.run (h:DP ops F S pm E E' v ch P n)(U:n=ops.size)(V:CD ops pm)(M:∀ i j W Z,i<n→j<i→pm i j=false→ops[i]? = some W→ops[j]? = some Z→W.apart ops Z=true)(hS:∀ id o,S.get id=some o→id<S.nx)(u:fr0.mode=.run) :
   ∀ (c t:Nat) (bj:Array Bool) (g:Gh) (w:World) (fr:Frame),bj.size=n→bj.toList.count false≤c →
     (∀ j,bj.getD j false=true→∀ k,pm j k=true→bj.getD k false=true) →
     DJ ops F S E' v ch (fun j=>bj.getD j false) n g0 w0 fr0 g w fr→fr.todo=.inRegion ops (Region.linearise.go .any ops c t bj [])::m →
     ∃ d w' g', Steps P (lone fr cs w) (lone d cs w')∧d.todo=.inRegion ops []::m∧DJ ops F S E' v ch (fun _=>true) n g0 w0 fr0 g' w' d:=by
 intro c
 induction c with
 | zero=>
   intro t bj g w fr B hc _ J f
   refine⟨fr,w,g,Steps.refl _ _,by simpa [Region.linearise.go] using f,J.congr fun j N=>?_⟩
   have y:bj[j]? = some bj[j]:=Bx (by omega)
   cases z:bj[j] with
   | true=>simp[Array.getD_eq_getD_getElem?, y,z]
   | false=>
     have:false∈bj.toList:=by rw[←z];simp
     have:=List.count_pos_iff.2 this
     omega
 | succ c ih=>
   intro t bj g w fr B hc s J f
   simp only[Region.linearise.go] at f
   change fr.todo=.inRegion ops (match (Region.ready .any ops bj)[t%(Region.ready .any ops bj).length]? with
     | some i=>Region.linearise.go .any ops c (t/(Region.ready .any ops bj).length) (bj.setIfInBounds i true) [i]
     | none=>[].reverse)::m at f
   cases hi:(Region.ready .any ops bj)[t%(Region.ready .any ops bj).length]? with
   | none=>
     have G:Region.ready .any ops bj=[]:=by
       cases K:Region.ready .any ops bj with
       | nil=>rfl
       | cons x xs=>
         rw[K] at hi
         have O:t%(x::xs).length<(x::xs).length:=Nat.mod_lt _ (by simp)
         simp at hi
         simp at O
         omega
     rw[hi] at f
     refine⟨fr,w,g,Steps.refl _ _,by simpa using f,J.congr fun j N=>?_⟩
     have y:bj[j]? = some bj[j]:=Bx (by omega)
     cases z:bj[j] with
     | true=>simp[Array.getD_eq_getD_getElem?, y,z]
     | false=>
       obtain⟨r,K⟩:=MD (bj:=bj) V (by omega) j (by rw[←z];simp)
       rw[G] at K;simp at K
   | some i=>
     rw[hi] at f
     simp only at f
     rw[linearise_go_acc,List.reverse_singleton,List.singleton_append] at f
     have H:=tl hi
     obtain⟨Q,o,ho,I⟩:=mem_ready.1 H
     have R:i<n:=by rw[U];exact(Array.getElem?_eq_some_iff.1 ho).1
     have y:bj[i]? = some bj[i]:=Bx (by omega)
     have C:bj[i]=false:=by simpa [Array.getD_eq_getD_getElem?, y] using Q
     have D:∀ j,pm i j=true→bj.getD j false=true:=by
       intro j hp
       obtain⟨o', e,L,a2,a3,a4⟩:=V.up i j hp
       rw[ho] at L;simp only[ar] at L;subst L
       have:=I e a2 a3
       rcases a4 with rfl | a4
       · exact this
       · exact s e.on this j a4
     obtain ⟨d,w', g', s1,s2,s3⟩:=J.step (cs:=cs) h (Nat.le_of_eq U) M hS R (by simp[Array.getD_eq_getD_getElem?, y,C]) (fun j a=>⟨by
       rcases Nat.lt_or_ge j bj.size with q | q
       · omega
       · simp[Array.getD_eq_getD_getElem?, Array.getElem?_eq_none q] at a,s j a⟩) D u f
     have p:∀ j,(bj.setIfInBounds i true).getD j false=wD (fun j=>bj.getD j false) i j:=by
       intro j
       by_cases e:j=i
       · subst e;simp[wD,show j<bj.size by omega]
       · rw[pc _ e];exact getD_set_ne false (Ne.symm e)
     obtain ⟨T,w2,g2,r1,r2,r3⟩:=ih (t/(Region.ready .any ops bj).length) (bj.setIfInBounds i true) g' w' d (by simpa using B) (by
         have:=O6 bj.toList i (by simp[show i<bj.size by omega,C])
         simp only[Array.toList_setIfInBounds];omega) (by
         intro j a k b
         rw[p] at a ⊢
         by_cases e:j=i
         · subst e
           by_cases A:k=j
           · subst A;exact qV _ _
           · rw[pc _ A];exact D k b
         · rw[pc _ e] at a
           by_cases A:k=i
           · subst A;exact qV _ _
           · rw[pc _ A];exact s j a k b) (s3.congr fun j _=>(p j).symm) s2
     exact⟨T,w2,g2,Steps.trans s1 r1,r2,r3⟩
theorem Reach.drawn {P:Program}{n:Nat}{F' : ad}{S' : af}{G:ad→af→Prop}{id:Nat}{k:List aC}(W:P.follows .mixedOrders=true)(hm:F.mode=.run)(ht:F.todo=.code (.region id ops true)::k)
   (h:DP ops F S pm E E' v ch P n) (hn:n=ops.size) (he:CD ops pm)
   (hap:∀ i j oi oj,i<n→j<i→pm i j=false→ops[i]? = some oi→ops[j]? = some oj→oi.apart ops oj=true)
   (hF:F'.n=F.n∧F'.todo=k∧F'.defers=F.defers∧F'.mode=F.mode) (hk:F'.kind=F.kind) (M:F'.fn=F.fn) (N:F'.round=F.round) (hcm:F'.cm=F.cm)
   (Z:∀ t u,F'.get t=some u→∃ st,sv ops F S E' v (fun _=>true) n t=some (u,st))
   (O : S'.nx=nn S E' n) (hlim:S'.lim=S.lim) (z:∀ id,S'.get id=match ov S E' ch (fun _=>true) n id with
     | some (o,_)=>some o
     | none=>none) (hr:Reach P F' S' G):Reach P F S G:=by
 refine hr.vD hk M N hcm fun g w fr cs L hi=>?_
 have B:=L.runs hm
 have I:=L.todo
 rw[ht] at I
 generalize hftd:fr.todo=td at I
 cases I with | cons h1 h2=>?_
 cases h1
 rename_i m
 have D:step P (lone fr cs w)=.next (lone { fr with todo:=.inRegion ops (Region.schedule (P.follows .mixedOrders) ops (w.tape w.drawn (.order fr.fn id)))::m } cs { w with drawn:=w.drawn+1 }):=
   step_lone_go (by simp[stepG,stepG.exec,B,hftd,choose,Sem.run,Question.forced,Question.cut])
 rw[W] at D
 simp only[Region.schedule,Bool.true_or,if_true,Region.linearise] at D
 generalize w.tape w.drawn (.order fr.fn id)=t at D
 have Q:∀ j,(Array.replicate ops.size false).getD j false=false:=by
   intro j
   simp only[Array.getD_eq_getD_getElem?, Array.getElem?_replicate]
   split<;>rfl
 have hsvb:∀ m t,sv ops F S E' v (fun _=>false) m t=sv ops F S E' v (fun _=>false) 0 t:=by
   intro m t
   exact Iz (i:=0) (Nat.zero_le _) (fun j _ _ e=>by simp at e)
 have C:∀ m id,ov S E' ch (fun _=>false) m id=ov S E' ch (fun _=>false) 0 id:=by
   intro m id
   exact Fm (i:=0) (Nat.zero_le _) (fun j _ _ e=>by simp at e)
 have hj0:DJ ops F S E' v ch (fun _=>false) n g w fr g { w with drawn:=w.drawn+1 } { fr with todo:=.inRegion ops (Region.linearise.go .any ops ops.size t (Array.replicate ops.size false) [])::m }:=by
   have H:∀ {id l},g.ph id=some l→(g.cut S.nx).ph id=some l:=fun e=>Gh.DL (hi.CA e) e
   have R:Gh.le g (g.cut S.nx):=⟨fun _ _ e=>e,fun _ _ e=>H e⟩
   refine⟨?_,?_,?_,hi.ro,fun id l e=>.inl (hi.CA e),Nat.le_refl _,rfl,⟨rfl,Nat.le_succ _⟩,rfl,fun _ _ _=>rfl,?_,Gh.le_refl _,fun _ _=>rfl,fun _ _ e _=>.inl e,fun _ _=>rfl,L.size,rfl⟩
   · intro t u st e
     rw[hsvb] at e
     simp only[sv] at e
     split at e<;>simp only[ar,iy,reduceCtorEq] at e
     rename_i u' hu
     obtain⟨rfl,rfl⟩:=e
     obtain⟨x,a,b⟩:=L.get t _ hu
     exact⟨x,a,b.mono R⟩
   · intro id o st e
     rw[C] at e
     simp only[ov] at e
     split at e<;>simp only[ar,iy,reduceCtorEq] at e
     rename_i o' ho
     obtain⟨rfl,rfl⟩:=e
     obtain⟨l,a,b,c⟩:=hi.ob id _ ho
     exact⟨l,H a,b,c.mono R⟩
   · intro id J o o' st st' l l' e y p p' hb
     rw[C] at e y
     simp only[ov] at e y
     split at e<;>simp only[ar,iy,reduceCtorEq] at e
     rename_i o1 K
     split at y<;>simp only[ar,iy,reduceCtorEq] at y
     rename_i o2 ho2
     exact hi.inj id J o1 o2 l l' K ho2 p p' hb
   · intro id o st l e hl hp T
     rw[C] at e
     simp only[ov] at e
     split at e<;>simp only[ar,iy,reduceCtorEq] at e
     rename_i o1 K
     exact⟨id,o1,l,K,hl,hp,rfl⟩
 obtain ⟨f,w', g', s1,s2,d⟩:=DJ.run (cs:=cs) (m:=m) h hn he hap (fun id o e=>hi.jy e) B ops.size t (Array.replicate ops.size false) g { w with drawn:=w.drawn+1 }
   { fr with todo:=.inRegion ops (Region.linearise.go .any ops ops.size t (Array.replicate ops.size false) [])::m } (by simp[hn]) (by simp) (by
     intro j a;rw[Q] at a;simp at a) (hj0.congr fun j _=>(Q j).symm) rfl
 have s:f={ fr with tmps:=f.tmps,todo:=.inRegion ops []::m }:=by
   have:=d.frame
   rw[s2] at this
   exact this
 have st2:step P (lone f cs w')=.next (lone { f with todo:=m } cs w'):=step_lone_go (by simp[stepG,stepG.exec,show f.mode=.run by rw[s];exact B,s2])
 have hnn:∀ {X:Nat→Bool} {t u st},sv ops F S E' v X n t=some (u,st)→Gh.le (g'.cut st) g' := fun _=>Gh.Av _ _
 refine⟨{ f with todo:=m },w', g', ?_,?_,?_,Steps.head D (Steps.trans s1 (.one st2))⟩
 · have U:=d.ng
   have A:=L.mono U
   refine⟨?_,?_,?_,?_,?_,?_,?_,?_⟩
   · rw[M,s];exact A.fn
   · rw[hF.1];exact d.Fl
   · intro t u e
     obtain⟨st,e1⟩:=Z t u e
     obtain⟨x,a,b⟩:=d.uq t u st e1
     exact⟨x,a,b.mono (Gh.Av _ _)⟩
   · rw[hF.2.1];exact h2.mono U
   · rw[hF.2.2.1,s];exact A.defers
   · rw[hF.2.2.2,s];exact A.mode
   · rw[hk,s];exact A.kind
   · rw[N,s];exact A.round
 · refine⟨d.ro,?_,?_,?_⟩
   · intro id o e
     rw[z] at e
     split at e<;>simp only[ar,reduceCtorEq] at e
     rename_i o' st y
     subst e
     obtain⟨l,a,b,c⟩:=d.ob id _ st y
     exact⟨l,(Gh.jM a).2,b,c.mono (Gh.Av _ _)⟩
   · intro id J o o' l l' e y p p' hb
     rw[z] at e y
     split at e<;>simp only[ar,reduceCtorEq] at e
     rename_i o1 st1 e1
     split at y<;>simp only[ar,reduceCtorEq] at y
     rename_i o2 st2' e2
     exact d.inj id J o1 o2 st1 st2' l l' e1 e2 p p' hb
   · intro id aQ
     cases e:g'.ph id with
     | none=>rfl
     | some l=>
       exfalso
       rw[O] at aQ
       rcases d.YI id l e with q | ⟨j,q1,_,_,q3⟩
       · have:=mD h (Nat.zero_le n) (Nat.le_refl _)
         have h0:nn S E' 0=S.nx:=rfl
         omega
       · have:=mD h (show j+1≤n by omega) (Nat.le_refl _)
         omega
 · refine⟨d.size,d.os,d.tape,d.output,d.gQ,?_,d.ng,?_,hlim,?_,d.rM,d.wC,fun id aQ e=>by rw[z,O5 h (Nat.le_refl _) aQ e],d.fz⟩
   · intro id o l e hl hp T
     rw[z] at e
     split at e<;>simp only[ar,reduceCtorEq] at e
     rename_i o' st y
     exact d.own id _ st l y hl hp T
   · rw[O];exact mD h (Nat.zero_le n) (Nat.le_refl _)
   · intro id aQ
     rw[z,Fm (i:=0) (Nat.zero_le _)]
     · simp only[ov]
       cases S.get id<;>rfl
     · intro j _ V _
       cases hc:ch j id with
       | none=>rfl
       | some r=>
         have:=(h.YH j V id (by rw[hc];simp)).1
         have:=h.lim j V
         omega
end
end
end Go.Eng
namespace Go.Eng
noncomputable section
def rp (m:Nat):List (Nat×AV)→List (Nat×AV)
 | []=>[]
 | (t,v)::r=>match tb m t with
   | true=>(t,v)::rp m r
   | false=>rp m r
theorem Gd {m:Nat}:∀ {l:List (Nat×AV)} {t:Nat} {v:AV},lk (rp m l) t=some v→tb m t=true∧lk l t=some v:=by
 intro l
 induction l with
 | nil=>intro t v h;simp[rp,oh] at h
 | cons a r d=>
   obtain⟨k,u⟩:=a
   intro t v h
   simp only[rp] at h
   cases c:tb m k with
   | true=>
     rw[c] at h
     simp only[gz] at h ⊢
     cases b:Nat.beq k t with
     | true=>
       rw[b] at h
       have:k=t:=jK b
       subst this;exact⟨c,h⟩
     | false=>rw[b] at h;exact d h
   | false=>
     rw[c] at h
     have:=d h
     refine⟨this.1,?_⟩
     simp only[gz]
     cases b:Nat.beq k t with
     | true=>
       have:k=t:=jK b
       subst this;rw[c] at this;simp at this
     | false=>exact this.2
def ad.IQ (F:ad)(d l:Nat)(k:List aC):ad:={ F with todo:=.vC l::k,defers:=.mf d::F.defers }
def ad.og (F:ad)(d l:Nat)(k:List aC):ic→ad
 | .ret _=>{ F with todo:=.nj l::k,defers:=.mf d::F.defers }
 | .uh c=>{ F.IQ d l k with mode:=.panicking c }
def ad.Fo (F:ad)(S:af)(params:Array Tmp)(assign body:Code):af:=
 (S.add (.df true)).add (.lp .ready none F.fn F.n F.mask (rp F.mask F.pW) params.toList assign body)
variable {P : Program} {F : ad} {S : af} {G : ad → af → Prop} {k : List aC} {assign body : Code}
theorem Reach.rangeFunc {f:Operand}{params:Array Tmp}{fn:FuncId}{first cap:List AV}{Q:ic→af→Prop}(hm:F.mode=.run)(ht:F.todo=.code (.rangeFunc f params assign body)::k)(hr:F.round=none)(hf0:F.eval f=some (.fn (.func fn) first cap))(hb:mJ P fn=true)(h1:Ok (S.nx+1))(h2:S.lim≤S.nx)(hc:dc P fn (first++[.pq (S.nx+1)]++cap) (F.Fo S params assign body) Q)(h:∀ r S', Q r S' → Reach P (F.og S.nx (S.nx+1) k r) S' G):Reach P F S G:=by
 intro g w fr T cs D hcs hi
 have A:=D.runs hm
 have hro:=D.D0 hr
 have E:=D.todo
 rw[ht] at E
 generalize hftd:fr.todo=td at E
 cases E with | cons q1 q2=>?_
 cases q1
 rename_i m
 have U:=EL.of D f _ hf0
 generalize hfv:fr.eval f=fv at U
 cases U with | fn hx hy hxr hyr=>?_
 rename_i xs ys
 obtain⟨i1,e1⟩:=hi.alloc (w' := w.alloc (.deferred (some []))) (by omega) (o:=.df true) (ob:=.deferred (some [])) (l:=⟨w.heap.size,0,0,0⟩) rfl rfl rfl rfl ⟨rfl,Nat.le_refl _⟩ rfl h2
 have H:=D.mono e1.ng
 obtain ⟨i2,e2⟩:=i1.alloc (w' := (w.alloc (.deferred (some []))).alloc (.loop { state:=.ready,pending:=none,fn:=fr.fn,tmps:=fr.tmps,params,assign,body,defers:=w.heap.size })) (by show Ok (S.nx+1);omega)
   (o:=.lp .ready none F.fn F.n F.mask (rp F.mask F.pW) params.toList assign body) (ob:=.loop { state:=.ready,pending:=none,fn:=fr.fn,tmps:=fr.tmps,params,assign,body,defers:=w.heap.size })
   (l := ⟨w.heap.size+1,0,0,0⟩) (by simp) ⟨_,rfl,rfl,rfl,H.fn,H.size,fun t v e=>by
     obtain⟨a,b⟩:=Gd e
     exact H.get t v (by simp only[ad.get,a];exact b),by simp,rfl,rfl⟩ rfl rfl ⟨rfl,Nat.le_refl _⟩ rfl (by show S.lim≤S.nx+1;omega)
 have he:=e1.trans e2
 generalize V:(g.add S.nx ⟨w.heap.size,0,0,0⟩).add (S.add (.df true)).nx ⟨w.heap.size+1,0,0,0⟩=R at *
 generalize hw2:(w.alloc (.deferred (some []))).alloc (.loop { state:=.ready,pending:=none,fn:=fr.fn,tmps:=fr.tmps,params,assign,body,defers:=w.heap.size })=O at *
 have hl:R.ph (S.nx+1)=some ⟨w.heap.size+1,0,0,0⟩:=by rw[←V];exact Gh.add_same _ _ _
 have hd:R.ph S.nx=some ⟨w.heap.size,0,0,0⟩:=by rw[←V,Gh.eR _ _ (by show S.nx≠S.nx+1;omega)];exact Gh.add_same _ _ _
 have hf2:=D.mono he.ng
 obtain⟨j,p⟩:∃ x:Frame,x={ fr with todo:=.inRangeFunc (w.heap.size+1)::m,defers:={ target:=.collected w.heap.size,args := #[] }::fr.defers }:=⟨_,rfl⟩
 have hev' : j.eval f=.func (.func fn) xs ys:=by rw[←hfv,p];cases f<;>rfl
 have hev2:j.eval (.const (.func (.yield (w.heap.size+1)) #[] #[]))=.func (.yield (w.heap.size+1)) #[] #[]:=by rw[p];rfl
 have L:(do let d←resolve j.eval { callee:=.value f,args := #[.const (.func (.yield (w.heap.size+1)) #[] #[])],argTypes := #[] } 0;invoke d.target d.args:Sem Next).run P O =
     .ok (.enter fn (xs ++ #[.func (.yield (w.heap.size+1)) #[] #[]]++ys)) O:=by
   simp only[resolve,Sem.run_bind,Sem.run_pure,Result.andThen_ok,invoke,hev', Deferred.ofValue,List.map_toArray,List.map_cons,List.map_nil,hev2,mj hb]
 have hent:(Instr.enterLoop fr.fn fr.tmps params assign body fr.roundOf).run P w=.ok (w.heap.size+1,[{ target:=.collected w.heap.size,args := #[] }]) O:=by
   rw[hro,←hw2]
   simp[Instr.enterLoop]
 have hst:step P (lone fr cs w)=.next (lone (Frame.enter P fn (xs ++ #[.func (.yield (w.heap.size+1)) #[] #[]]++ys) .normal) (j::cs) O):=by
   refine step_lone_go ?_
   have hft:j.todo=.inRangeFunc (w.heap.size+1)::m:=by rw[p]
   have M:({ fn:=fr.fn,tmps:=fr.tmps,todo:=.inRangeFunc (w.heap.size+1)::m,defers:={ target:=.collected w.heap.size,args := #[] }::fr.defers,mode:=.run,kind:=fr.kind,roundOf:=fr.roundOf }:Frame)=j:=by rw[p,A]
   simp only[stepG,stepG.exec,A,hftd,Sem.runT_eq,hent,GStep.bare_after,List.singleton_append,M]
   simp[stepG.apply,L,hft]
 have N:fG R (first++[.pq (S.nx+1)]++cap) (xs ++ #[.func (.yield (w.heap.size+1)) #[] #[]]++ys):=
   fG.append (fG.append ⟨hx,fun a b c d e=>(hxr a b c d e).mono he.ng⟩ (fG.cons (xs:=[]) (.pq hl) (fG.nil R))) ⟨hy,fun a b c d e=>(hyr a b c d e).mono he.ng⟩
 obtain⟨e,w', W,⟨r,S', g', hq,s,hi', I⟩,u,_,y⟩:=hc R O _ N i2 (j::cs)
 have z:=he.trans I
 have go:∀ B,step P (lone W (j::cs) w')=.next (lone B cs w')→mW P g' (F.og S.nx (S.nx+1) k r) B→Steps P (lone (Frame.enter P fn (xs ++ #[.func (.yield (w.heap.size+1)) #[] #[]]++ys) .normal) (j::cs) O) (lone W (j::cs) w') →
     ∃ F' J C K X Y,G F' J∧mW P C F' X∧uf C F' T Y∧F'.kind=F.kind∧F'.fn=F.fn∧F'.round=F.round∧Inv J C K∧Ext S g w J C K∧Steps P (lone fr cs w) (lone X Y K):=by
   intro B hst2 hfr hs1
   have q:(F.og S.nx (S.nx+1) k r).kind=F.kind∧(F.og S.nx (S.nx+1) k r).fn=F.fn∧(F.og S.nx (S.nx+1) k r).round=F.round∧(F.og S.nx (S.nx+1) k r).cm=F.cm:=by
     cases r<;>exact⟨rfl,rfl,rfl,rfl⟩
   obtain⟨F2,S2,g3,w3,fr3,cs2,q', p1,p2,p3,p4,p5,p6,p7,p8⟩:=h r S' hq g' w' B T cs hfr ((hcs.mono z.ng).congr q.1 q.2.2.2) hi'
   exact⟨F2,S2,g3,w3,fr3,cs2,q', p1,p2,p3.trans q.1,p4.trans q.2.1,p5.trans q.2.2.1,p6,z.trans p7,Steps.head hst (Steps.trans hs1 (Steps.head hst2 p8))⟩
 have i:=D.mono z.ng
 have Z:=I.ng.ph _ _ hl
 have hd' := I.ng.ph _ _ hd
 cases r with
 | ret v=>
   cases e with
   | returned x=>
     refine go _ (step_leave_returned y) ?_ u
     rw[p]
     exact⟨i.fn,i.size,i.get,.cons (.nj Z) (q2.mono z.ng),.mf hd' i.defers,i.mode,i.kind,i.round⟩
   | panicked c=>exact s.elim
   | outgrown=>exact s.elim
 | uh l=>
   cases e with
   | returned x=>exact s.elim
   | panicked c=>
     refine go _ (step_leave_panicked y) ?_ u
     have:j.raise c={ j with mode:=.panicking c }:=by simp[Frame.raise,p,A]
     rw[this,p]
     exact⟨i.fn,i.size,i.get,.cons (.vC Z) (q2.mono z.ng),.mf hd' i.defers,.panicking s,i.kind,i.round⟩
   | outgrown=>exact s.elim
def Hh (pend:Option Code)(k:List aC):List aC:=
 match pend with
 | some c=>.code c::k
 | none=>k
variable {id : Nat} {st : LoopState} {pend : Option Code} {fn n mask : Nat} {env : List (Nat × AV)} {params : List Tmp}
theorem Reach.nj (x:F.mode=.run)(y:F.todo=.nj id::k)(t:S.get id=some (.lp st pend fn n mask env params assign body))(q:(st == .busy)=false)(z:S.lim≤id)(h:Reach P { F with todo:=Hh pend k,loc:=[] } (S.set id (.lp .exhausted pend fn n mask env params assign body)) G):Reach P F S G:=by
 refine h.vD rfl rfl rfl rfl fun g w fr cs i hi=>?_
 have d:=i.runs x
 have a:=i.todo
 rw[y] at a
 generalize e:fr.todo=td at a
 cases a with | cons A u=>?_
 cases A
 rename_i m l b
 obtain⟨l', o,a2,a3⟩:=hi.ob _ _ t
 rw[b] at o;simp only[ar] at o;subst o
 obtain⟨lo,p,B,v,C,D,E,H,I,J⟩:=a3
 have r:=(Array.getElem?_eq_some_iff.1 p).1
 have f:(Instr.endLoop l.cd).run P w=.ok pend { w with heap:=w.heap.setIfInBounds l.cd (.loop { lo with state:=.exhausted }) }:=by
  simp only[Instr.endLoop,Instr.getLoop,Sem.run_bind,getObj,Sem.run,p,Result.andThen_ok,Sem.run_pure,B,q]
  simp[setObj,Sem.run,p,v]
 obtain ⟨K,L⟩:=hi.j2 (w' := { w with heap:=w.heap.setIfInBounds l.cd (.loop { lo with state:=.exhausted }) }) (ob' := .loop { lo with state:=.exhausted }) (o' := .lp .exhausted pend fn n mask env params assign body) t z b (by simp)
  (by show(w.heap.setIfInBounds l.cd _)[l.cd]? = _;simp[r]) (by intro j M;show(w.heap.setIfInBounds l.cd _)[j]? = _;rw[Array.getElem?_setIfInBounds,if_neg (Ne.symm M)]) rfl ⟨rfl,Nat.le_refl _⟩ rfl
  ⟨_,rfl,rfl,v,C,D,E,H,I,J⟩
 have s:mX g (Hh pend k) ((pend.map Item.code).toList++m):=by
  cases pend with
  | none=>exact u
  | some c=>exact .cons .code u
 refine⟨{ fr with todo:=(pend.map Item.code).toList++m },_,g,i.QW s,K,L,.one (step_lone_go ?_)⟩
 simp[stepG,stepG.exec,d,e,Sem.runT_eq,f]
theorem Reach.mf {P:Program}{F:ad}{S:af}{G:ad→af→Prop}{id:Nat}{ds:List gx}(x:F.mode ≠ .run)(y:F.defers=.mf id::ds)(v:S.get id=some (.df true))(z:S.lim≤id)
  (h:Reach P { F with defers:=ds } (S.set id (.df false)) G):Reach P F S G:=by
 refine h.vD rfl rfl rfl rfl fun g w fr cs a hi=>?_
 have b:=a.defers
 rw[y] at b
 generalize p:fr.defers=E at b
 cases b with | mf c A=>?_
 rename_i l m
 have q:fr.mode ≠ .run:=by
  intro e
  have:=a.mode
  rw[e] at this
  generalize r:F.mode=H at this
  cases this
  exact x r
 obtain⟨l', f,a2,a3⟩:=hi.ob _ _ v
 rw[c] at f;simp only[ar] at f;subst f
 have i:w.heap[l.cd]? = some (.deferred (some [])):=a3
 have s:=(Array.getElem?_eq_some_iff.1 i).1
 have d:(Instr.takeDeferred l.cd).run P w=.ok [] { w with heap:=w.heap.setIfInBounds l.cd (.deferred none) }:=by
  simp only[Instr.takeDeferred,Sem.run_bind,getObj,Sem.run,i,Result.andThen_ok]
  simp[setObj,Sem.run,i]
 obtain ⟨B,C⟩:=hi.j2 (w' := { w with heap:=w.heap.setIfInBounds l.cd (.deferred none) }) (ob' := .deferred none) (o' := .df false) v z c (by simp)
  (by show(w.heap.setIfInBounds l.cd _)[l.cd]? = _;simp[s]) (by intro j D;show(w.heap.setIfInBounds l.cd _)[j]? = _;rw[Array.getElem?_setIfInBounds,if_neg (Ne.symm D)]) rfl ⟨rfl,Nat.le_refl _⟩ rfl rfl
 refine⟨{ fr with defers:=m },_,g,⟨a.fn,a.size,a.get,a.todo,A,a.mode,a.kind,a.round⟩,B,C,.one (step_lone_go ?_)⟩
 have t:∀ u,fr.mode=u→stepG P true { frame:=fr,callers:=cs,status:=.running,dying:=none } w=Go.unwind P true fr cs none w:=by
  intro u o
  cases u with
  | run=>exact absurd o q
  | returning=>simp[stepG,o]
  | panicking _=>simp[stepG,o]
 rw[t _ rfl]
 simp[Go.unwind,p,Sem.runT_eq,d]
theorem Reach.GS (u:F.mode=.run)(v:F.todo=.GS::k)(x:F.round=some id)(s:S.get id=some (.lp .ready pend fn n mask env params assign body))(y:S.lim≤id)(h:Reach P { F with todo:=k } (S.set id (.lp .busy pend fn n mask env params assign body)) G):Reach P F S G:=by
 refine h.vD rfl rfl rfl rfl fun g w fr cs p hi=>?_
 have c:=p.runs u
 have i:=p.todo
 rw[v] at i
 generalize d:fr.todo=td at i
 cases i with | cons z A=>?_
 cases z
 rename_i m
 obtain⟨l,t,a2,a3⟩:=hi.ob _ _ s
 have a:=p.round
 rw[x] at a
 have f:fr.roundOf=some l.cd:=by
  cases e:fr.roundOf with
  | none=>rw[e] at a;exact a.elim
  | some b=>rw[e] at a;obtain⟨l', c1,c2⟩:=a;rw[t] at c1;simp only[ar] at c1;subst c1;rw[c2]
 obtain⟨lo,q,B,C,D,E,H,I,J,K⟩:=a3
 have r:=(Array.getElem?_eq_some_iff.1 q).1
 have o:(Instr.beginRound l.cd).run P w=.ok () { w with heap:=w.heap.setIfInBounds l.cd (.loop { lo with state:=.busy }) }:=by
  simp only[Instr.beginRound,Instr.getLoop,Sem.run_bind,getObj,Sem.run,q,Result.andThen_ok,Sem.run_pure]
  simp[setObj,Sem.run,q,B]
 obtain ⟨L,M⟩:=hi.j2 (w' := { w with heap:=w.heap.setIfInBounds l.cd (.loop { lo with state:=.busy }) }) (ob' := .loop { lo with state:=.busy }) (o' := .lp .busy pend fn n mask env params assign body) s y t (by simp)
  (by show(w.heap.setIfInBounds l.cd _)[l.cd]? = _;simp[r]) (by intro j N;show(w.heap.setIfInBounds l.cd _)[j]? = _;rw[Array.getElem?_setIfInBounds,if_neg (Ne.symm N)]) rfl ⟨rfl,Nat.le_refl _⟩ rfl
  ⟨_,rfl,rfl,C,D,E,H,I,J,K⟩
 refine⟨{ fr with todo:=m },_,g,p.with A,L,M,.one (step_lone_go ?_)⟩
 simp only[stepG,stepG.exec,c,d,stepG.apply,f,Option.elim,Sem.runT_eq,if_true,Sem.run_bind,o,Result.andThen_ok,Sem.run_pure]
 simp[Frame.finish,d,c,f]
def Jr (n mask:Nat):List (Nat×AV)→List Tmp→List AV→List (Nat×AV)
 | env,t::ts,v::a=>match tb mask t,Nat.ble (t+1) n with
   | true,true=>Jr n mask (up env t v) ts a
   | _,_=>Jr n mask env ts a
 | env,_,_=>env
def sB (id fn n mask:Nat)(env:List (Nat×AV))(params:List Tmp)(assign body:Code)(args:List AV):ad:=
 { fn:=fn,n:=n,mask:=mask,loc:=[],pW:=Jr n mask env params args,todo:=[.code assign,.GS,.code body],defers:=[],mode:=.run,kind:=.normal,cm:=.run,round:=some id }
theorem AR : ∀(l:List (Tmp×Value)) (tmps:Array Value),(l.foldl (fun tmps (x:Tmp×Value)=>tmps.setIfInBounds x.1 x.2) tmps).size=tmps.size:=by
 intro l
 induction l with
 | nil=>intro tmps;rfl
 | cons a l b=>intro tmps;simp only[List.foldl_cons];rw[b];simp
theorem AS {g:Gh}:∀ {params:List Tmp} {args:List AV} {xs:List Value} {env:List (Nat×AV)} {tmps:Array Value},tmps.size=n→args.length=params.length→fG g args xs.toArray →
   (∀ t v,tb mask t=true→lk env t=some v→∃ x,tmps[t]? = some x∧VR g v x) →
   ∀ t v,tb mask t=true→lk (Jr n mask env params args) t=some v→∃ x,((params.zip xs).foldl (fun tmps (x:Tmp×Value)=>tmps.setIfInBounds x.1 x.2) tmps)[t]? = some x∧VR g v x:=by
 intro params
 induction params with
 | nil=>
   intro args xs env tmps _ _ _ h t v f e
   have D:lk env t=some v:=by cases args<;>simpa [Jr] using e
   simpa using h t v f D
 | cons p E u=>
   intro args xs env tmps r C hx h t v f e
   cases args with
   | nil=>simp at C
   | cons a as=>
     cases xs with
     | nil=>have:=hx.1;simp at this
     | cons x xs=>
       have A:VR g a x:=hx.2 0 a x rfl rfl
       have l:fG g as xs.toArray:=⟨by have:=hx.1;simpa using this,fun k b y c d=>hx.2 (k+1) b y (by simpa using c) (by simpa using d)⟩
       simp only[List.zip_cons_cons,List.foldl_cons]
       have m:as.length=E.length:=by simpa using C
       have j:(tb mask p=false∨¬ p<n)→∀ t v,tb mask t=true→lk env t=some v→∃ y,(tmps.setIfInBounds p x)[t]? = some y∧VR g v y:=by
         intro B t v f e
         obtain⟨y,s,w⟩:=h t v f e
         refine⟨y,?_,w⟩
         rw[Array.getElem?_setIfInBounds]
         by_cases i:p=t
         · subst i
           exfalso
           rcases B with q | q
           · rw[q] at f;simp at f
           · exact q (r▸(Array.getElem?_eq_some_iff.1 s).1)
         · rw[if_neg i];exact s
       simp only[Jr] at e
       cases z:tb mask p with
       | false=>
         rw[z] at e
         exact u (by simpa using r) m l (j (.inl z)) t v f e
       | true=>
         rw[z] at e
         cases o:Nat.ble (p+1) n with
         | false=>
           rw[o] at e
           exact u (by simpa using r) m l (j (.inr fun q=>by rw[tn q] at o;simp at o)) t v f e
         | true=>
           rw[o] at e
           have H:=eL o
           refine u (env:=up env p a) (by simpa using r) m l (fun t v f e=>?_) t v f e
           by_cases i:t=p
           · subst i
             rw[tB] at e;simp only[ar] at e;subst e
             exact⟨x,by simp[show t<tmps.size by omega],A⟩
           · rw[sk _ _ i] at e
             obtain⟨y,s,w⟩:=h t v f e
             exact⟨y,by rw[Array.getElem?_setIfInBounds,if_neg (Ne.symm i)];exact s,w⟩
def yo : List aC→Option Code
 | .code .ret::_=>some .ret
 | .code (.exit b)::k=>match r9 b k with
   | none=>some (.exit b)
   | some _=>none
 | _=>none
def EY (id:Nat)(F' : ad)(a:af)(Q:ic→af→Prop):Prop:=
 F'.defers=[]∧((F'.mode=.run∧∃ st pend fn n mask env params assign body,a.get id=some (.lp st pend fn n mask env params assign body)∧a.lim≤id ∧
   ((F'.todo=[]∧Q (.ret (.sc (.bool true))) (a.set id (.lp .ready none fn n mask env params assign body))) ∨
    ∃ c,yo F'.todo=some c∧Q (.ret (.sc (.bool false))) (a.set id (.lp .done (some c) fn n mask env params assign body)))) ∨
  ∃ l,F'.mode=.panicking l∧Q (.uh l) a)
theorem Reach.Xr {all:Array Oper}{i:Nat}{rest:List Nat}{o:Oper}{args:List AV}{fnc:Func}(hm:F.mode=.run)(ht:F.todo=.ops all (i::rest)::k)(ho:all[i]? = some o)(hg:rP F all o=some true)(hsp:bT o.op=false)(ha:gi P F.eval S o.op=some (.pq id args))(hlp:S.get id=some (.lp st pend fn n mask env params assign body))(V:args.length=params.length)(hfn:P.funcs[fn]? = some fnc)(h:Reach P (sB id fn n mask env params assign body args) S fun F' S' => EY id F' S' fun r q=>Reach P (F.back o all rest k r) q G):Reach P F S G:=by
 intro g w fr cs0 cs hf hcs hi
 obtain⟨m,e1,e2⟩:=hf.split ht
 obtain⟨l,xs,r0,r1,r2⟩:=jR hi (EL.of hf) ha
 have W:=hf.runs hm
 obtain⟨l', a1,a2,a3⟩:=hi.ob _ _ hlp
 rw[r0] at a1;simp only[ar] at a1;subst a1
 obtain⟨lo,b1,b2,b3,b4,b5,b6,b7,b8,b9⟩:=a3
 have hsz:xs.size=lo.params.size:=by rw[b7,←r2.1,V];simp
 have hy:(Instr.yield l.cd xs).run P w=.ok (.round l.cd lo.fn ((lo.params.zip xs).foldl (fun tmps (x:Tmp×Value)=>tmps.setIfInBounds x.1 x.2) lo.tmps) lo.assign lo.body) w:=by
   simp[Instr.yield,Instr.getLoop,Sem.run_bind,getObj,Sem.run,b1,hsz]
 rw[hy] at r1
 obtain⟨frR,X⟩:∃ x:Frame,x=Frame.round l.cd lo.fn ((lo.params.zip xs).foldl (fun tmps (x:Tmp×Value)=>tmps.setIfInBounds x.1 x.2) lo.tmps) lo.assign lo.body .normal:=⟨_,rfl⟩
 have hs:=gp (P:=P) (cs:=cs) (w:=w) W e1 ho (kL hf hg) (.inr hsp)
 have hst:step P (lone fr cs w)=.next (lone frR (fr::cs) w):=by
   refine step_lone_go ?_
   rw[hs,X]
   simp[stepG.apply,r1]
 have hfold:(lo.params.zip xs).foldl (fun tmps (x:Tmp×Value)=>tmps.setIfInBounds x.1 x.2) lo.tmps=(params.zip xs.toList).foldl (fun tmps (x:Tmp×Value)=>tmps.setIfInBounds x.1 x.2) lo.tmps:=by
   rw[←Array.foldl_toList,Array.toList_zip,b7]
 have hFR:mW P g (sB id fn n mask env params assign body args) frR:=by
   rw[X,hfold]
   refine⟨b4,?_,?_,.cons (by rw[b8];exact .code) (.cons .GS (.cons (by rw[b9];exact .code) .nil)),.nil,.run,rfl,⟨l,r0,rfl⟩⟩
   · show((params.zip xs.toList).foldl _ lo.tmps).size=n
     rw[AR];exact b5
   · intro t v e
     simp only[ad.get,sB] at e
     split at e
     · rename_i hmt
       exact AS b5 V (by simpa using r2) (fun t v _ e=>b6 t v e) t v hmt e
     · simp[oh] at e
 obtain⟨F', S', g', w', d,Q,⟨hd,O⟩,p1,p2,p3,p4,p5,p6,p7,p8⟩:=h g w frR (fr::cs) (fr::cs) hFR (by simp[uf,sB]) hi
 have hk:F'.kind=.normal:=p3
 have hcs' : Q=fr::cs:=by unfold uf at p2;rw[hk] at p2;exact p2
 subst hcs'
 have hfn' : d.fn=fn:=p1.fn.trans p4
 have hdf:d.defers=[]:=by have:=p1.defers;rw[hd] at this;exact this.DK
 have hkd:d.kind=.normal:=p1.kind.trans hk
 have u:d.roundOf=some l.cd:=by
   have H:=p1.round
   rw[p5] at H
   have hl' := p7.ng.ph _ _ r0
   cases e:d.roundOf with
   | none=>rw[e] at H;exact H.elim
   | some b=>rw[e] at H;obtain⟨l2,c1,c2⟩:=H;rw[hl'] at c1;simp only[ar] at c1;subst c1;rw[c2]
 have fin:∀(r:ic) (q:af) (s:World) (R:Frame),Reach P (F.back o all rest k r) q G→Inv q g' s→Ext S' g' w' q g' s→step P (lone d (fr::cs) w')=.next (lone R cs s)→mW P g' (F.back o all rest k r) R →
     ∃ F' q T s d Q,G F' q∧mW P T F' d∧uf T F' cs0 Q∧F'.kind=F.kind∧F'.fn=F.fn∧F'.round=F.round∧Inv q T s∧Ext S g w q T s∧Steps P (lone fr cs w) (lone d Q s):=by
   intro r q s R hR hI hE hst2 hfr2
   have p:(F.back o all rest k r).kind=F.kind∧(F.back o all rest k r).fn=F.fn∧(F.back o all rest k r).round=F.round∧(F.back o all rest k r).cm=F.cm:=by
     cases r with
     | ret v=>exact F.iq o v all rest k
     | uh l=>exact⟨rfl,rfl,rfl,rfl⟩
   have hxx:=p7.trans hE
   obtain⟨F2,S2,g3,w3,fr3,cs2,q', z1,z2,z3,z4,z5,z6,z7,z8⟩:=hR g' s R cs0 cs hfr2 ((hcs.mono hxx.ng).congr p.1 p.2.2.2) hI
   exact⟨F2,S2,g3,w3,fr3,cs2,q', z1,z2,z3.trans p.1,z4.trans p.2.1,z5.trans p.2.2.1,z6,hxx.trans z7,Steps.head hst (Steps.trans p8 (Steps.head hst2 z8))⟩
 have y:=hf.mono p7.ng
 have e2x:=e2.mono p7.ng
 rcases O with⟨hmr,st2,pend2,fn2,n2,L,Y,params2,B,M,Z,hlim2,O⟩ | ⟨lch,hmp,O⟩
 · have C:=p1.runs hmr
   obtain⟨l2,c1,c2,c3⟩:=p6.ob _ _ Z
   rw[p7.ng.ph _ _ r0] at c1;simp only[ar] at c1;subst c1
   obtain⟨I,d1,d2,d3,d4,d5,d6,d7,d8,d9⟩:=c3
   have hlt:=(Array.getElem?_eq_some_iff.1 d1).1
   have J:∀ a,(Instr.endRound l.cd a).run P w' = .ok (.bool a.isNone) { w' with heap:=w'.heap.setIfInBounds l.cd (.loop { I with state:=if a.isNone then .ready else .done,pending:=a }) }:=by
     intro a
     simp only[Instr.endRound,Instr.getLoop,Sem.run_bind,getObj,Sem.run,d1,Result.andThen_ok,Sem.run_pure]
     simp[setObj,Sem.run,d1]
   have hupd:∀(E:LoopState) (a:Option Code),Inv (S'.set id (.lp E a fn2 n2 L Y params2 B M)) g' { w' with heap:=w'.heap.setIfInBounds l.cd (.loop { I with state:=E,pending:=a }) } ∧
       Ext S' g' w' (S'.set id (.lp E a fn2 n2 L Y params2 B M)) g' { w' with heap:=w'.heap.setIfInBounds l.cd (.loop { I with state:=E,pending:=a }) }:=by
     intro E a
     exact p6.j2 (ob' := .loop { I with state:=E,pending:=a }) Z hlim2 (p7.ng.ph _ _ r0) (by simp)
       (by show(w'.heap.setIfInBounds l.cd _)[l.cd]? = _;simp[hlt]) (by intro j hj;show(w'.heap.setIfInBounds l.cd _)[j]? = _;rw[Array.getElem?_setIfInBounds,if_neg (Ne.symm hj)]) rfl ⟨rfl,Nat.le_refl _⟩ rfl
       ⟨_,rfl,rfl,rfl,d4,d5,d6,d7,d8,d9⟩
   have N:∀ b:Bool,mW P g' (F.back o all rest k (.ret (.sc (.bool b)))) (fr.finish (.bool b)):=fun b=>y.after e1 e2x ho (.sc rfl)
   have z:=p1.todo
   rcases O with⟨htn,O⟩ | ⟨c,f,O⟩
   · rw[htn] at z
     generalize A:d.todo=td at z
     cases z
     obtain⟨u1,u2⟩:=hupd .ready none
     refine fin _ _ _ (fr.finish (.bool true)) O u1 u2 (step_lone_go ?_) (N true)
     simp[stepG,stepG.exec,C,A,u,Sem.runT_eq,J,doReturn,hkd]
   · obtain⟨u1,u2⟩:=hupd .done (some c)
     have hgo:step P (lone d (fr::cs) w')=.next (lone (fr.finish (.bool false)) cs { w' with heap:=w'.heap.setIfInBounds l.cd (.loop { I with state:=.done,pending:=some c }) }):=by
       refine step_lone_go ?_
       generalize htodo:F'.todo=T' at z f
       unfold yo at f
       split at f
       · simp only[ar] at f;subst f
         generalize A:d.todo=td at z
         cases z with | cons y1 y2=>?_
         cases y1
         simp[stepG,stepG.exec,C,A,u,Sem.runT_eq,J,doReturn,hkd]
       · split at f<;>simp only[ar,reduceCtorEq] at f
         rename_i xid bb hexq hex
         subst f
         generalize A:d.todo=td at z
         cases z with | cons y1 y2=>?_
         cases y1
         have K:=uE (id:=xid) y2
         rw[hex] at K
         simp only at K
         simp[stepG,stepG.exec,C,A,K,u,Sem.runT_eq,J,doReturn,hkd]
       · simp at f
     exact fin _ _ _ (fr.finish (.bool false)) O u1 u2 hgo (N false)
 · have D:=p1.mode
   rw[hmp] at D
   obtain⟨mm,hm', hch⟩:∃ m,d.mode=.panicking m∧hP g' lch m:=by generalize d.mode=md at D ⊢;cases D with | panicking h=>exact⟨_,rfl,h⟩
   have U:d.going P w' (.panicked mm):=⟨hm', hdf,fnc,by rw[hfn'];exact hfn⟩
   refine fin (.uh lch) S' w' (fr.raise mm) O p6 (Ext.refl _ _ _) (step_leave_panicked U) ?_
   have:fr.raise mm={ fr with mode:=.panicking mm }:=by simp[Frame.raise,W]
   rw[this]
   exact⟨y.fn,y.size,y.get,y.todo,y.defers,.panicking hch,y.kind,y.round⟩
end
end Go.Eng
namespace Go.Eng
noncomputable section
set_option linter.unusedVariables false in
def ME (P:Program)(ρ:Operand→Option AV)(S:af)(x:Operand):Option cY:=
 j3 S (ρ x)
set_option linter.unusedVariables false in
def HE (P:Program)(ρ:Operand→Option AV)(S:af)(x:Operand):Option cY:=
 j3 S (ρ x)
set_option linter.unusedVariables false in
def MF (P:Program)(ρ:Operand→Option AV)(S:af)(c:Operand)(a:Operand)(b:Operand):Option cY:=
 match ρ c with
 | some (.sc (.bool true))=>j3 S (ρ a)
 | some (.sc (.bool false))=>j3 S (ρ b)
 | _=>none
set_option linter.unusedVariables false in
def JM (P:Program)(ρ:Operand→Option AV)(S:af)(t:TypeId):Option cY:=
 match iC P t with
 | some z=>yl (CB S z)
 | none=>none
set_option linter.unusedVariables false in
def O7 (P:Program)(ρ:Operand→Option AV)(S:af)(x:Operand):Option cY:=
 match ρ x with
 | some v=>yl (CB S v)
 | none=>none
set_option linter.unusedVariables false in
def JN (P:Program)(ρ:Operand→Option AV)(S:af)(t:TypeId)(a:Array (Nat×Operand)):Option cY:=
 match um ρ a.toList with
 | some l=>j3 S (zP P t l)
 | none=>none
set_option linter.unusedVariables false in
def Bf (P:Program)(ρ:Operand→Option AV)(S:af)(t:TypeId)(n:Nat)(a:Array (Nat×Operand)):Option cY:=
 match um ρ a.toList with
 | some l=>yl (nD P S t n l)
 | none=>none
set_option linter.unusedVariables false in
def MG (P:Program)(ρ:Operand→Option AV)(S:af)(t:TypeId)(a:Operand):Option cY:=
 match ρ a with
 | some p=>match jN S p with
   | some cs=>j3 S (mI P t cs)
   | none=>none
 | none=>none
set_option linter.unusedVariables false in
def JO (P:Program)(ρ:Operand→Option AV)(S:af)(t:TypeId)(a:Operand)(x:Operand):Option cY:=
 match ρ a,ρ x with
 | some p,some v=>Cx (sf P S t p v)
 | _,_=>none
set_option linter.unusedVariables false in
def Em (P:Program)(ρ:Operand→Option AV)(S:af)(x:Operand):Option cY:=
 match ρ x with
 | some (.ptr id i j)=>some (.val (.ptr id i j) S)
 | some (.eV cs)=>some (.val (.eV cs) S)
 | some (.fn (.func f) a b)=>some (.val (.fn (.func f) a b) S)
 | some (.pq id)=>some (.val (.pq id) S)
 | some (.fq t v)=>some (.val (.fq t v) S)
 | some y=>match Iy P y with
   | true=>some (.val y S)
   | false=>none
 | none=>none
set_option linter.unusedVariables false in
def JP (P:Program)(ρ:Operand→Option AV)(S:af)(op:BinOp)(t:TypeId)(x:Operand)(y:Operand):Option cY:=
 match ρ x,ρ y with
 | some (.sc .nilIface),some (.sc .nilIface)=>match P.underlying t with
   | some (.interface _)=>match sU x||sU y with
     | true=>j3 S (ni op true)
     | false=>none
   | _=>none
 | some a,some b=>j3 S (sQ P op t a b)
 | _,_=>none
set_option linter.unusedVariables false in
def MH (P:Program)(ρ:Operand→Option AV)(S:af)(op:UnOp)(x:Operand):Option cY:=
 match ρ x with
 | some a=>j3 S (K2 op a)
 | none=>none
set_option linter.unusedVariables false in
def Ge (P:Program)(ρ:Operand→Option AV)(S:af)(s:TypeId)(d:TypeId)(x:Operand):Option cY:=
 match ρ x with
 | some a=>j3 S (As P s d a)
 | none=>none
set_option linter.unusedVariables false in
def xA (P:Program)(ρ:Operand→Option AV)(S:af)(t:TypeId)(x:Operand):Option cY:=
 match P.underlying t,ρ x with
 | some (.interface _),_=>none
 | some _,some v=>some (.val (.fq t v) S)
 | _,_=>none
set_option linter.unusedVariables false in
def Ep (P:Program)(ρ:Operand→Option AV)(S:af)(f:Fn)(a:Array Operand)(b:Array Operand):Option cY:=
 match qA ρ a.toList,qA ρ b.toList with
 | some x,some y=>some (.val (.fn f x y) S)
 | _,_=>none
set_option linter.unusedVariables false in
def Gf (P:Program)(ρ:Operand→Option AV)(S:af)  : Option cY:=
 yl (uW S)
set_option linter.unusedVariables false in
def B5 (P:Program)(ρ:Operand→Option AV)(S:af)(t:TypeId)(l:Operand)(c:Operand):Option cY:=
 match ρ l,ρ c with
 | some x,some y=>yl (mZ P S t x y)
 | _,_=>none
set_option linter.unusedVariables false in
def JQ (P:Program)(ρ:Operand→Option AV)(S:af)(t:TypeId)(x:Operand)(lo:Option Operand)(hi:Option Operand):Option cY:=
 match ρ x,(match lo with
  | none=>some none
  | some a=>match ρ a with
    | some v=>some (some v)
    | none=>none),(match hi with
  | none=>some none
  | some a=>match ρ a with
    | some v=>some (some v)
    | none=>none) with
 | some a,some l,some h=>j3 S (kU P S t a l h)
 | _,_,_=>none
set_option linter.unusedVariables false in
def MI (P:Program)(ρ:Operand→Option AV)(S:af)(t:TypeId)(x hi b:Operand):Option cY:=
 match ρ x,ρ hi,ρ b with
 | some a,some h,some m=>j3 S (xP P t a h m)
 | _,_,_=>none
set_option linter.unusedVariables false in
def O8 (P:Program)(ρ:Operand→Option AV)(S:af)(t:TypeId)(x lo hi b:Operand):Option cY:=
 match ρ x,ρ lo,ρ hi,ρ b with
 | some a,some l,some h,some m=>j3 S (Iw P t a l h m)
 | _,_,_,_=>none
set_option linter.unusedVariables false in
def B6 (P:Program)(ρ:Operand→Option AV)(S:af)(s:TypeId)(x:Operand)(f:Nat):Option cY:=
 match ρ x with
 | some a=>j3 S (sl P s a f)
 | none=>none
set_option linter.unusedVariables false in
def JR (P:Program)(ρ:Operand→Option AV)(S:af)(t:TypeId)(x:Operand)(f:Nat):Option cY:=
 match ρ x with
 | some a=>j3 S (zO P t a f)
 | none=>none
set_option linter.unusedVariables false in
def B7 (P:Program)(ρ:Operand→Option AV)(S:af)(t:TypeId)(x:Operand)(c:Operand):Option cY:=
 match ρ x,ρ c with
 | some a,some b=>j3 S (dG P S t a.pX b)
 | _,_=>none
set_option linter.unusedVariables false in
def JS (P:Program)(ρ:Operand→Option AV)(S:af)(t:TypeId)(x:Operand)(c:Operand):Option cY:=
 match ρ x,ρ c with
 | some a,some b=>j3 S (uO P t a b)
 | _,_=>none
set_option linter.unusedVariables false in
def HF (P:Program)(ρ:Operand→Option AV)(S:af)(t:TypeId)(x:Operand)(c:Operand)(ok:Bool):Option cY:=
 match ρ x,ρ c with
 | some a,some b=>j3 S (iD P S t a b ok)
 | _,_=>none
set_option linter.unusedVariables false in
def B8 (P:Program)(ρ:Operand→Option AV)(S:af)(t:TypeId)(m:Operand)(k:Operand)(x:Operand):Option cY:=
 match ρ m,ρ k,ρ x with
 | some a,some b,some c=>Cx (lh P S t a b c)
 | _,_,_=>none
set_option linter.unusedVariables false in
def HG (P:Program)(ρ:Operand→Option AV)(S:af)(t:TypeId)(m:Operand)(k:Operand)(x:Operand):Option cY:=
 match ρ m,ρ k,ρ x with
 | some a,some b,some c=>Cx (lh P S t a b c)
 | _,_,_=>none
set_option linter.unusedVariables false in
def JT (P:Program)(ρ:Operand→Option AV)(S:af)(t:TypeId)(x:Operand):Option cY:=
 match ρ x with
 | some a=>yl (uP P S t a)
 | none=>none
set_option linter.unusedVariables false in
def MJ (P:Program)(ρ:Operand→Option AV)(S:af)(b:Operand)(s:Bool):Option cY:=
 match ρ b with
 | some a=>yl (vL S a s)
 | none=>none
set_option linter.unusedVariables false in
def JU (P:Program)(ρ:Operand→Option AV)(S:af)(b:Operand):Option cY:=
 match ρ b with
 | some a=>j3 S (zR S a)
 | none=>none
set_option linter.unusedVariables false in
def Bg (P:Program)(ρ:Operand→Option AV)(S:af)(x:Operand)(t:TypeId)(ok:Bool):Option cY:=
 match ρ x with
 | some a=>j3 S (wZ P t a ok)
 | none=>none
set_option linter.unusedVariables false in
def Gg (P:Program)(ρ:Operand→Option AV)(S:af)(t:Operand)(a:Nat):Option cY:=
 match ρ t with
 | some (.bm b)=>j3 S (nth b a)
 | _=>none
set_option linter.unusedVariables false in
def MK (P:Program)(ρ:Operand→Option AV)(S:af)(c:Call):Option cY:=
 uv P ρ S c
set_option linter.unusedVariables false in
def JV (P:Program)(ρ:Operand→Option AV)(S:af)(c:Call):Option cY:=
 match qA ρ c.args.toList with
 | some args=>match c.callee with
   | .value f=>match ρ f with
     | some (.fn (.func g) first cap)=>match mJ P g with
       | true=>some (.qT g cap (first++args))
       | false=>none
     | _=>none
   | _=>none
 | none=>none
set_option linter.unusedVariables false in
def JW (P:Program)(ρ:Operand→Option AV)(S:af)(x:Operand):Option cY:=
 match ρ x with
 | some (.fq t v)=>some (.uh (.fq t v))
 | _=>none
def ze (P:Program)(ρ:Operand→Option AV)(S:af)(o:Op):Option cY:=
 match o with
 | .move x=>ME P ρ S x
 | .assign x=>HE P ρ S x
 | .pick c a b=>MF P ρ S c a b
 | .alloc t=>JM P ρ S t
 | .box _ x=>O7 P ρ S x
 | .build t g=>JN P ρ S t g
 | .buildSlice t n g=>Bf P ρ S t n g
 | .load t a=>MG P ρ S t a
 | .store t a x=>JO P ρ S t a x
 | .nilCheck x=>Em P ρ S x
 | .binOp op t x y _=>JP P ρ S op t x y
 | .unOp op _ x=>MH P ρ S op x
 | .convert s d x=>Ge P ρ S s d x
 | .makeInterface t x=>xA P ρ S t x
 | .makeFunc f a b=>Ep P ρ S f a b
 | .makeMap _ none=>Gf P ρ S
 | .makeSlice t l c=>B5 P ρ S t l c
 | .slice t x lo hi none=>JQ P ρ S t x lo hi
 | .slice t x none (some hi) (some h)=>MI P ρ S t x hi h
 | .slice t x (some lo) (some hi) (some h)=>O8 P ρ S t x lo hi h
 | .fieldAddr s x f=>B6 P ρ S s x f
 | .field t x f=>JR P ρ S t x f
 | .indexAddr t x e=>B7 P ρ S t x e
 | .index t x e=>JS P ρ S t x e
 | .lookup t x e ok=>HF P ρ S t x e ok
 | .mapUpdate t m k x=>B8 P ρ S t m k x
 | .insert t m k x=>HG P ρ S t m k x
 | .range t x=>JT P ρ S t x
 | .next i s=>MJ P ρ S i s
 | .entry i=>JU P ρ S i
 | .typeAssert x _ t ok=>Bg P ρ S x t ok
 | .extract t e=>Gg P ρ S t e
 | .call c=>MK P ρ S c
 | .defer c=>JV P ρ S c
 | .panic x=>JW P ρ S x
 | _=>none
theorem mE (P:Program)(ρ:Operand→Option AV)(S:af)(o:Op):ze P ρ S o=gi P ρ S o:=by
 cases o with
 | makeMap t r=>cases r<;>rfl
 | slice t x l h m=>cases m<;>cases l<;>cases h<;>rfl
 | _=>rfl
end
end Go.Eng
namespace Go.Eng
noncomputable section
def QX (F:ad)(t:Nat)(v:AV):ad:=
 match F with
 | ⟨fn,n,mask,loc,pW,todo,defers,mode,kind,cm,round⟩=>match Nat.ble (t+1) n with
   | true=>match tb mask t with
     | true=>⟨fn,n,mask,loc,up pW t v,todo,defers,mode,kind,cm,round⟩
     | false=>⟨fn,n,mask,(t,v)::loc,pW,todo,defers,mode,kind,cm,round⟩
   | false=>⟨fn,n,mask,loc,pW,todo,defers,mode,kind,cm,round⟩
theorem O9 (F:ad)(t:Nat)(v:AV):QX F t v=F.set t v:=by
 cases F with | mk a n m b c d e f g h i=>?_
 simp only[QX,ad.set]<;>cases Nat.ble (t+1) n<;>cases tb m t<;>rfl
def K7 (F:ad)(d:Option Tmp)(v:AV):ad:=
 match d with
 | some t=>QX F t v
 | none=>F
theorem D2 (F:ad)(d:Option Tmp)(v:AV):K7 F d v=F.put d v:=by
 cases d with
 | none=>rfl
 | some t=>exact O9 F t v
def rb (F:ad)(td:List aC):ad:=
 match F with
 | ⟨fn,n,mask,loc,pW,_,defers,mode,kind,cm,round⟩=>⟨fn,n,mask,loc,pW,td,defers,mode,kind,cm,round⟩
theorem ML (F:ad)(td:List aC):rb F td={ F with todo:=td }:=rfl
def wH (F:ad)(td:List aC):ad:=
 match F with
 | ⟨fn,n,mask,_,pW,_,defers,mode,kind,cm,round⟩=>⟨fn,n,mask,[],pW,td,defers,mode,kind,cm,round⟩
theorem AD (F:ad)(td:List aC):wH F td={ F with todo:=td,loc:=[] }:=rfl
def IA (F:ad)(a:de):ad:=
 match F with
 | ⟨fn,n,mask,loc,pW,todo,defers,_,kind,cm,round⟩=>⟨fn,n,mask,loc,pW,todo,defers,a,kind,cm,round⟩
theorem abF (F:ad)(a:de):IA F a={ F with mode:=a }:=rfl
def mK (F:ad)(o:Oper)(v:AV)(all:Array Oper)(rest:List Nat)(k:List aC):ad:=rb (K7 F o.dst v) (.ops all rest::k)
theorem gU (F:ad)(o:Oper)(v:AV)(all:Array Oper)(rest:List Nat)(k:List aC):mK F o v all rest k=F.after o v all rest k:=by
 unfold mK ad.after
 rw[D2,ML]
def IB (F:ad)(o:Oper)(all:Array Oper)(rest:List Nat)(k:List aC):ic→ad
 | .ret v=>mK F o v all rest k
 | .uh l=>IA F (.panicking l)
theorem AE (F:ad)(o:Oper)(all:Array Oper)(rest:List Nat)(k:List aC)(r:ic):IB F o all rest k r=F.back o all rest k r:=by
 cases r with
 | ret v=>exact gU F o v all rest k
 | uh l=>rfl
def Za (F:ad):Option Nat→Option ad
 | none=>some (IA F .returning)
 | some _=>none
def abd (F:ad)(td:List aC)(x y:Code):Option AV→Option ad
 | some (.sc (.bool true))=>some (rb F (.code x::td))
 | some (.sc (.bool false))=>some (rb F (.code y::td))
 | _=>none
def abe (F:ad):Option (List aC)→Option ad
 | some td=>some (rb F td)
 | none=>none
def abf (F:ad)(td:List aC):Code→Option ad
 | .ret=>Za F F.round
 | .skip=>some (rb F td)
 | .label _=>some (rb F td)
 | .seq x y=>some (rb F (.code x :: .code y::td))
 | .cond c x y=>abd F td x y (F.eval c)
 | .block id x=>some (rb F (.code x :: .inBlock id::td))
 | .loop x=>some (rb F (.code x :: .inLoop x::td))
 | .scope x=>some (rb F (.code x :: .inScope x::td))
 | .exit id=>abe F (r9 id td)
 | .region _ all false=>some (wH F (.ops all (List.range all.size)::td))
 | _=>none
def abg (F:ad)(td:List aC):aC→Option ad
 | .code c=>abf F td c
 | .inBlock _=>some (rb F td)
 | .inScope _=>some (rb F td)
 | .inLoop x=>some (rb F (.code x :: .inLoop x::td))
 | .ops _ []=>some (wH F td)
 | _=>none
def Js (F:ad):List aC→Option ad
 | []=>Za F F.round
 | it::td=>abg F td it
theorem IS {F:ad}(a:F.mode=.run):Js F F.todo=Jq F:=by
 obtain⟨fn,n,mask,loc,pW,todo,defers,mode,kind,cm,round⟩:=F
 simp only at a
 subst a
 cases todo with
 | nil=>cases round<;>rfl
 | cons b td=>
   cases b with
   | code c=>
     cases c with
     | ret=>cases round<;>rfl
     | region id all d=>cases d<;>rfl
     | cond c x y=>rfl
     | exit id=>rfl
     | _=>rfl
   | ops all l=>cases l<;>rfl
   | _=>rfl
noncomputable def Zb (l:List Oper):Nat→Option Oper:=
 List.rec (motive:=fun _=>Nat→Option Oper) (fun _=>none) (fun a _ b i=>Nat.rec (motive:=fun _=>Option Oper) (some a) (fun n _=>b n) i) l
theorem Pa : ∀(l:List Oper) (i:Nat),Zb l i=l[i]? := by
 intro l
 induction l with
 | nil=>intro i;rfl
 | cons a r b=>
   intro i
   cases i with
   | zero=>rfl
   | succ i=>exact(b i).trans (by simp)
noncomputable def Jt (all:Array Oper)(i:Nat):Option Oper:=Zb all.toList i
theorem wP (all:Array Oper)(i:Nat):Jt all i=all[i]? := by unfold Jt;rw[Pa];simp
def abO (F:ad)(td:List aC):de→Option ad
 | .run=>Js F td
 | _=>none
def L8 : List aC→Bool
 | .code _ :: .inLoop _::_=>true
 | _=>false
def N2 : Nat→ad→ad
 | 0,F=>F
 | n+1,F=>match L8 F.todo with
   | true=>F
   | false=>match abO F F.todo F.mode with
     | some F' => N2 n F'
     | none=>F
theorem HH {P:Program}{S:af}{G:ad→af→Prop}:∀(n:Nat) {F:ad},Reach P (N2 n F) S G→Reach P F S G:=by
 intro n
 induction n with
 | zero=>intro F h;exact h
 | succ n e=>
   intro F h
   simp only[N2] at h
   cases c:L8 F.todo with
   | true=>rw[c] at h;exact h
   | false=>
   rw[c] at h
   simp only at h
   cases a:abO F F.todo F.mode with
   | none=>rw[a] at h;exact h
   | some F' =>
     rw[a] at h
     have h:=e h
     have b:F.mode=.run:=by
      cases b:F.mode with
      | run=>rfl
      | returning=>rw[b] at a;simp[abO] at a
      | panicking l=>rw[b] at a;simp[abO] at a
     have d:Js F F.todo=some F' := by
      rw[b] at a
      exact a
     rw[IS b] at d
     exact Reach.Yh d h
structure xE where
 fn : Func
 body : Code
 mask : Nat
 wide : List (Nat × Nat)
 sep : List (Nat × Nat)
 ext : Option (List AV → af → Option (AV × af))
 deriving Inhabited
inductive FT where
 | nil
 | node (o : Option xE) (l r : FT)
def FT.get : Nat→FT→Nat→Option xE
 | _,.nil,_=>none
 | 0,.node o _ _,_=>o
 | d+1,.node _ l r,i=>match Nat.beq (i%2) 0 with
   | true=>FT.get d l (i/2)
   | false=>FT.get d r (i/2)
def FT.set : Nat→FT→Nat→xE→FT
 | 0,_,_,v=>.node (some v) .nil .nil
 | d+1,.nil,i,v=>match Nat.beq (i%2) 0 with
   | true=>.node none (FT.set d .nil (i/2) v) .nil
   | false=>.node none .nil (FT.set d .nil (i/2) v)
 | d+1,.node o l r,i,v=>match Nat.beq (i%2) 0 with
   | true=>.node o (FT.set d l (i/2) v) r
   | false=>.node o l (FT.set d r (i/2) v)
def FT.look (T:FT)(f:Nat):Option xE:=
 match Nat.ble (f+1) 1024 with
 | true=>FT.get 10 T f
 | false=>none
def FT.Dw : Nat→FT→Nat→(List AV→af→Option (AV×af))→FT
 | _,.nil,_,_=>.nil
 | 0,.node o l r,_,x=>.node (match o with
   | some e=>some { e with ext:=some x }
   | none=>none) l r
 | d+1,.node o l r,i,x=>match Nat.beq (i%2) 0 with
   | true=>.node o (FT.Dw d l (i/2) x) r
   | false=>.node o l (FT.Dw d r (i/2) x)
def BC : List (Nat×Nat)→Nat→Nat
 | [],_=>0
 | (k,v)::r,t=>match Nat.beq k t with
   | true=>v
   | false=>BC r t
def al (eH:List (Nat×Nat)):List Edge→Nat
 | []=>0
 | e::r=>match Region.binds .any e with
   | true=>Nat.lor (Nat.lor (Nat.shiftLeft 1 e.on) (BC eH e.on)) (al eH r)
   | false=>al eH r
def uQ (i:Nat):List Edge→Bool
 | []=>true
 | e::r=>match Region.binds .any e with
   | true=>match Nat.ble (e.on+1) i with
     | true=>uQ i r
     | false=>false
   | false=>uQ i r
def xS (ops:Array Oper)(o:Oper)(m:Nat):List (Nat×Oper)→Bool
 | []=>true
 | (j,p)::r=>match tb m j with
   | true=>xS ops o m r
   | false=>match o.apart ops p with
     | true=>xS ops o m r
     | false=>false
def IC (ops:Array Oper):List Oper→Nat→List (Nat×Nat)→List (Nat×Oper)→Bool
 | [],_,_,_=>true
 | o::os,i,eH,done=>match uQ i o.after.toList with
   | true=>match xS ops o (al eH o.after.toList) done with
     | true=>IC ops os (i+1) ((i,al eH o.after.toList)::eH) ((i,o)::done)
     | false=>false
   | false=>false
def CE (ops:Array Oper):Bool:=IC ops ops.toList 0 [] []
abbrev tH := List (Nat×Option ak)
inductive EM where
 | NS (c : tH)
 | wide (lim nx : Nat)
structure sw where
 fn : Func
 F : ad
 S : af
 ops : Array Oper
 os : List Oper
 i : Nat
 eH : List (Nat × Nat)
 wm : Nat
 sm : Nat
 j9 : List (Nat × EM)
 es : List (Nat × af)
inductive DM where
 | quiet
 | wide (aQ : List Nat)
 | sep (ids : List Nat)
inductive cI where
 | nil
 | hole (G : ad → af → Prop)
 | call (fn : Func) (F : ad) (o : Oper) (all : Array Oper) (rest : List Nat) (k : List aC) (next : cI)
 | qT (fn : Func) (F : ad) (ds : List gx) (next : cI)
 | loop (fn : Func) (F : ad) (d l : Nat) (k : List aC) (next : cI)
 | round (fn : Func) (F : ad) (o : Oper) (all : Array Oper) (rest : List Nat) (k : List aC) (id : Nat) (next : cI)
 | fE (D : sw) (o : Oper) (os : List Oper) (E : af) (pi : Nat) (aQ : DM) (rnd : Option Nat) (next : cI)
inductive St where
 | run (fn : Func) (F : ad) (S : af) (k : cI)
 | fE (D : sw) (k : cI)
 | done (r : ic) (S : af)
 | fork (fn : Func) (k : cI) (l : List (ad × af))
 | bad (why : Nat)
def pr : tH→Nat→Bool
 | [],_=>false
 | (k,_)::r,t=>match Nat.beq k t with
   | true=>true
   | false=>pr r t
def EM.has : EM→Nat→Bool
 | .NS c,t=>pr c t
 | .wide lim nx,t=>match Nat.ble lim t with
   | true=>Nat.ble (t+1) nx
   | false=>false
def iU (a:Nat):List (Nat×EM)→Nat→Bool
 | [],_=>true
 | (j,c)::r,id=>match tb a j with
   | true=>iU a r id
   | false=>match c.has id with
     | true=>false
     | false=>iU a r id
def rj (a:Nat):List (Nat×af)→Nat→Bool
 | [],_=>true
 | (j,E)::r,id=>match tb a j with
   | true=>rj a r id
   | false=>match E.get id with
     | some _=>false
     | none=>rj a r id
def Qc : AV→List Nat
 | .clip (.aj id _ _)=>[id]
 | .ptr id _ _=>[id]
 | .aj id _ _=>[id]
 | .dJ id=>[id]
 | .pq id=>[id]
 | _=>[]
def hZ (F:ad):List Operand→List Nat
 | []=>[]
 | x::r=>match F.eval x with
   | some v=>Qc v++hZ F r
   | none=>hZ F r
def iA (o:Op):List Operand:=
 match o with
 | .store _ a _=>[a]
 | .mapUpdate _ m k _=>[m,k]
 | .insert _ m k _=>[m,k]
 | _=>o.operands.toList
def seen (S:af)(a:Nat)(j9:List (Nat×EM)):List Nat→PT→PT
 | [],m=>m
 | id::r,m=>match iU a j9 id with
   | true=>match S.get id with
     | some o=>seen S a j9 r (PT.set dep m id (some o))
     | none=>seen S a j9 r m
   | false=>seen S a j9 r m
def hidden (a:Nat):List (Nat×EM)→Option (List Nat)
 | []=>some []
 | (j,c)::r=>match tb a j with
   | true=>hidden a r
   | false=>match c with
     | .wide _ _=>none
     | .NS c=>match hidden a r with
       | some l=>some (c.map (·.1)++l)
       | none=>none
def jf (m:PT):List Nat→PT
 | []=>m
 | id::r=>jf (PT.set dep m id none) r
def vM (S:af)(m:PT):List Nat→PT
 | []=>m
 | id::r=>vM S (PT.set dep m id (S.get id)) r
def yp (a:Nat):List (Nat×af)→Bool
 | []=>true
 | (j,_)::r=>match tb a j with
   | true=>yp a r
   | false=>false
def rQ (m:PT):tH→PT
 | []=>m
 | (id,o)::r=>rQ (PT.set dep m id o) r
def children : ak→List AV
 | .arr _ es=>es
 | .mp a=>a.map (·.1)++a.map (·.2)
 | .lp _ _ _ _ _ env _ _ _=>env.map (·.2)
 | _=>[]
def parts : AV→List AV
 | .agg cs=>cs
 | .lit es=>es
 | .eV es=>es
 | .fn _ a b=>a++b
 | .fq _ x=>[x]
 | .clip x=>[x]
 | .bm c=>c
 | _=>[]
def QY (E:af)(lo:Nat)(a:tH)(id:Nat):Option ak:=
 match Nat.ble lo id with
 | true=>match pr a id with
   | true=>none
   | false=>E.get id
 | false=>none
def py : Nat:=1000000
def ja (E:af)(lo:Nat):Nat→List AV→tH→tH
 | 0,_,a=>a
 | _,[],a=>a
 | n+1,v::r,a=>match Qc v with
   | []=>ja E lo n (parts v++r) a
   | id::_=>match QY E lo a id with
     | some o=>ja E lo n (children o++r) ((id,some o)::a)
     | none=>ja E lo n r a
def kids (S:af):List Nat→List AV
 | []=>[]
 | id::r=>match S.get id with
   | some o=>children o++kids S r
   | none=>kids S r
def xT (a:Nat)(j9:List (Nat×EM)):tH→tH
 | []=>[]
 | (id,o)::r=>match iU a j9 id with
   | true=>(id,o)::xT a j9 r
   | false=>xT a j9 r
def vh (lim:Nat):tH→List Nat
 | []=>[]
 | (id,_)::r=>match Nat.ble lim id with
   | true=>id::vh lim r
   | false=>vh lim r
def sC (E:af)(n:Nat):Nat→tH
 | 0=>[]
 | k+1=>match E.get (n+k) with
   | some o=>(n+k,some o)::sC E n k
   | none=>sC E n k
def np (E S:af):List Nat→tH
 | []=>[]
 | id::r=>match E.get id with
   | some _=>(id,S.get id)::np E S r
   | none=>np E S r
def nq (lim:Nat):List Nat→List Nat
 | []=>[]
 | id::r=>match Nat.ble lim id with
   | true=>id::nq lim r
   | false=>nq lim r
def jS (a:Nat)(es:List (Nat×af))(nx:Nat):List Nat→Bool
 | []=>true
 | id::r=>match Nat.ble nx id with
   | true=>jS a es nx r
   | false=>match rj a es id with
     | true=>jS a es nx r
     | false=>false
def K8 (i:Nat)(c:tH)(j9:List (Nat×EM)):List (Nat×EM):=
 match c with
 | []=>j9
 | _=>(i,.NS c)::j9
def xI (i:Nat)(E:Option af)(es:List (Nat×af)):List (Nat×af):=
 match E with
 | some E=>(i,E)::es
 | none=>es
def sw.next (D:sw)(o:Oper)(os:List Oper)(a:Nat)(v:AV)(nx:Nat)(c:tH)(E:Option af):sw:=
 match D with
 | ⟨fn,F,⟨_,lim,m⟩,ops,_,i,eH,wm,sm,j9,es⟩=>
   ⟨fn,K7 F o.dst v,⟨nx,lim,rQ m c⟩,ops,os,Nat.succ i,(i,a)::eH,wm,sm,K8 i c j9,xI i E es⟩
def ui (D:sw)(o:Oper)(os:List Oper)(b:Nat)(k:cI)(E:af)(ids:List Nat)(xI:Option af):Option cY→Option St
 | some (.val v a)=>some (.fE (D.next o os b v a.nx (np E a ids++sC a E.nx (a.nx-E.nx)) xI) k)
 | some (.skip a)=>some (.fE (D.next o os b (.bm []) a.nx (np E a ids++sC a E.nx (a.nx-E.nx)) xI) k)
 | _=>none
def Am (n:Nat):Option St→St
 | some s=>s
 | none=>.bad n
def Zc (P:Program)(D:sw)(o:Oper)(os:List Oper)(a:Nat)(k:cI)(nx:Nat)(ids:List Nat)(m:PT):Bool→St
 | true=>Am 5 (ui D o os a k ⟨nx,D.S.lim,m⟩ ids (some ⟨nx,D.S.lim,m⟩) (ze P D.F.eval ⟨nx,D.S.lim,m⟩ o.op))
 | false=>.bad 4
def Qd (P:Program)(D:sw)(o:Oper)(os:List Oper)(a:Nat)(k:cI)(nx:Nat)(ids:List Nat)(m:PT):Option St→St
 | some s=>s
 | none=>Zc P D o os a k nx (nq D.S.lim ids) m (jS a D.es nx (nq D.S.lim ids))
def Zd (P:Program)(D:sw)(o:Oper)(os:List Oper)(a:Nat)(k:cI)(nx:Nat)(ids:List Nat)(m:PT):St:=
 Qd P D o os a k nx ids m (ui D o os a k ⟨nx,nx,m⟩ [] (some ⟨nx,nx,m⟩) (ze P D.F.eval ⟨nx,nx,m⟩ o.op))
def Ze (P:Program)(D:sw)(o:Oper)(os:List Oper)(a:Nat)(k:cI)(nx:Nat)(ids:List Nat):St:=
 Zd P D o os a k nx ids (seen D.S a D.j9 ids .nil)
def Zf (P:Program)(D:sw)(o:Oper)(os:List Oper)(a:Nat)(k:cI):Option St→St
 | some s=>s
 | none=>Ze P D o os a k D.S.nx (hZ D.F (iA o.op))
def Zg (P:Program)(D:sw)(o:Oper)(os:List Oper)(a:Nat)(k:cI):Bool→St
 | true=>.bad 1
 | false=>Zf P D o os a k (ui D o os a k ⟨D.S.nx,D.S.nx,.nil⟩ [] none (ze P D.F.eval ⟨D.S.nx,D.S.nx,.nil⟩ o.op))
def acA (P:Program)(D:sw)(o:Oper)(os:List Oper)(a:Nat)(k:cI):Option Bool→St
 | some false=>.fE (D.next o os a (.bm []) D.S.nx [] none) k
 | some true=>Zg P D o os a k (bT o.op)
 | none=>.bad 6
def re (T:FT)(F:ad)(c:Call)(P:Program):Option (Nat×xE×List AV):=
 match qA F.eval c.args.toList with
 | some args=>match c.callee with
   | .value f=>match F.eval f with
     | some (.fn (.func g) first cap)=>match FT.look T g with
       | some e=>some (g,e,first++args++cap)
       | none=>none
     | some y=>match DH P y args with
       | some (g,l)=>match FT.look T g with
         | some e=>some (g,e,l)
         | none=>none
       | none=>none
     | none=>none
   | .invoke r a=>match F.eval r with
     | some (.fq t v)=>match DG P t a v with
       | some (g,b)=>match FT.look T g with
         | some e=>some (g,e,b::args)
         | none=>none
       | none=>none
     | _=>none
   | _=>none
 | none=>none
def aqe : Op→Bool
 | .call c=>match c.callee with
   | .builtin _=>false
   | _=>true
 | _=>false
def vN (f:Nat)(e:xE)(args:List AV)(kind:CallKind)(cm:de):ad:=ad.enter f e.fn.ntmps e.mask e.body args kind cm
def sw.LK (D:sw)(o:Oper)(os:List Oper)(E:af)(b:Nat)(aQ:List Nat)(v:AV)(S:af):sw:=
 match D,S with
 | ⟨fn,F,⟨a,lim,c⟩,ops,_,i,eH,wm,sm,j9,es⟩,⟨nx,_,m⟩=>
   ⟨fn,K7 F o.dst v,⟨nx,lim,vM ⟨a,lim,c⟩ m aQ⟩,ops,os,Nat.succ i,(i,b)::eH,wm,sm,(i,.wide lim nx)::j9,(i,E)::es⟩
def sw.jg (D:sw)(o:Oper)(os:List Oper)(E:af)(a:Nat)(aQ:DM)(v:AV)(S:af):sw:=
 match aQ with
 | .quiet=>D.next o os a v S.nx (ja S E.nx py [v] []) (some E)
 | .sep ids=>D.next o os a v S.nx (np E S ids++ja S E.nx py (v::kids S ids) []) (some E)
 | .wide aQ=>D.LK o os E a aQ v S
def Xs (T:FT)(f id:Nat):Nat:=
 match FT.look T f with
 | some e=>BC e.wide id
 | none=>0
def back (r:ic)(cm:de)(S:af):cI→St
 | .nil=>.done r S
 | .hole _=>.bad 61
 | .call fn F o all rest k next=>.run fn (IB F o all rest k r) S next
 | .qT fn F ds next=>.run fn { F with defers:=ds,mode:=iJ r cm } S next
 | .loop fn F d l k next=>.run fn (F.og d l k r) S next
 | .round fn F o all rest k _ next=>match r with
   | .uh _=>.run fn (IB F o all rest k r) S next
   | .ret _=>.bad 26
 | .fE D o os E a aQ none next=>match r with
   | .ret v=>.fE (D.jg o os E a aQ v S) next
   | .uh _=>.bad 9
 | .fE _ _ _ _ _ _ (some _) _=>.bad 39
def abh (T:FT)(f id:Nat):Nat:=
 match FT.look T f with
 | some e=>BC e.sep id
 | none=>0
def xU (g:Nat)(e:xE)(args:List AV)(S:af)(k:cI):St:=
 match e.ext with
 | none=>.run e.fn (vN g e args .normal .run) S k
 | some x=>match x args S with
   | some (v,a)=>back (.ret v) .run a k
   | none=>.run e.fn (vN g e args .normal .run) S k
def QZ (T:FT)(P:Program)(D:sw)(o:Oper)(os:List Oper)(a:Nat)(k:cI):St:=
 match hidden a D.j9,yp a D.es with
 | some aQ,true=>
   let E:af:=⟨D.S.nx,D.S.lim,jf D.S.m aQ⟩
   match ze P D.F.eval E o.op with
   | some (.pq id args)=>match E.get id with
     | some (.lp _ _ f n mask env params assign body)=>match FT.look T f,Nat.beq args.length params.length with
       | some e,true=>.run e.fn (sB id f n mask env params assign body args) E (.fE D o os E a (.wide aQ) (some id) k)
       | _,_=>.bad 40
     | _=>.bad 41
   | _=>.bad 7
 | _,_=>.bad 42
def Hi (D:sw)(o:Oper)(os:List Oper)(a:Nat)(k:cI)(g:Nat)(e:xE)(args:List AV)(c:tH)(ids:List Nat):Bool→St
 | true=>xU g e args ⟨D.S.nx,D.S.lim,rQ .nil c⟩ (.fE D o os ⟨D.S.nx,D.S.lim,rQ .nil c⟩ a (.sep ids) none k)
 | false=>.bad 45
def Xt (D:sw)(o:Oper)(os:List Oper)(a:Nat)(k:cI)(g:Nat)(e:xE)(args:List AV)(aQ:List Nat):Bool→St
 | true=>let c:=xT a D.j9 (ja D.S 0 py args [])
   Hi D o os a k g e args c (vh D.S.lim c) (jS a D.es D.S.nx (vh D.S.lim c))
 | false=>xU g e args ⟨D.S.nx,D.S.nx,jf D.S.m aQ⟩ (.fE D o os ⟨D.S.nx,D.S.nx,jf D.S.m aQ⟩ a .quiet none k)
def Hj (D:sw)(o:Oper)(os:List Oper)(a:Nat)(k:cI)(g:Nat)(e:xE)(args:List AV)(aQ:List Nat):Bool→St
 | true=>xU g e args ⟨D.S.nx,D.S.lim,jf D.S.m aQ⟩ (.fE D o os ⟨D.S.nx,D.S.lim,jf D.S.m aQ⟩ a (.wide aQ) none k)
 | false=>.bad 22
def Hk (D:sw)(o:Oper)(os:List Oper)(a:Nat)(k:cI)(g:Nat)(e:xE)(args:List AV):Option (List Nat)→St
 | some aQ=>match tb D.wm D.i with
   | true=>Hj D o os a k g e args aQ (yp a D.es)
   | false=>Xt D o os a k g e args aQ (tb D.sm D.i)
 | none=>.bad 23
def Xu (T:FT)(P:Program)(D:sw)(o:Oper)(os:List Oper)(a:Nat)(k:cI):Option (Nat×xE×List AV)→St
 | some (g,e,args)=>Hk D o os a k g e args (hidden a D.j9)
 | none=>QZ T P D o os a k
def Qe (T:FT)(P:Program)(D:sw)(o:Oper)(os:List Oper)(a:Nat)(k:cI)(c:Call):Option Bool→St
 | some false=>.fE (D.next o os a (.bm []) D.S.nx [] none) k
 | some true=>Xu T P D o os a k (re T D.F c P)
 | none=>.bad 8
def Zh (T:FT)(P:Program)(D:sw)(o:Oper)(os:List Oper)(a:Nat)(k:cI):Option Call→St
 | some c=>Qe T P D o os a k c (rP D.F D.ops o)
 | none=>acA P D o os a k (rP D.F D.ops o)
def hU : Op→Option Call
 | .call c=>match c.callee with
   | .builtin _=>none
   | _=>some c
 | _=>none
def LL (T:FT)(P:Program)(D:sw)(k:cI):List Oper→St
 | []=>.run D.fn (wH D.F D.F.todo) D.S k
 | o::os=>Zh T P D o os (al D.eH o.after.toList) k (hU o.op)
def acB (T:FT)(fn:Func)(F:ad)(S:af)(k:cI)(params:Array Tmp)(assign body:Code)(td:List aC):Option Nat→Option AV→St
 | none,some (.fn (.func g) first cap)=>match FT.look T g,Nat.ble (S.nx+2) 8192,Nat.ble S.lim S.nx with
   | some e,true,true=>.run e.fn (vN g e (first++[.pq (S.nx+1)]++cap) .normal .run) (F.Fo S params assign body) (.loop fn F S.nx (S.nx+1) td k)
   | _,_,_=>.bad 30
 | _,_=>.bad 31
def Zi (fn:Func)(F:ad)(S:af)(k:cI)(id:Nat)(td:List aC):Option ak→St
 | some (.lp st a f n mask env params assign body)=>match st == .busy,Nat.ble S.lim id with
   | false,true=>.run fn (wH F (Hh a td)) (S.set id (.lp .exhausted a f n mask env params assign body)) k
   | _,_=>.bad 32
 | _=>.bad 33
def Zj (fn:Func)(F:ad)(S:af)(k:cI)(id:Nat)(td:List aC):Option ak→St
 | some (.lp .ready a f n mask env params assign body)=>match Nat.ble S.lim id with
   | true=>.run fn (rb F td) (S.set id (.lp .busy a f n mask env params assign body)) k
   | false=>.bad 34
 | _=>.bad 35
def Fp (S:af)(k:cI)(v:AV):St:=
 match k with
 | .round a b o all rest td _ next=>.run a (IB b o all rest td (.ret v)) S next
 | .fE D o os E c aQ (some _) next=>.fE (D.jg o os E c aQ v S) next
 | _=>.bad 38
def ae5 (S:af)(k:cI)(id f n mask:Nat)(env:List (Nat×AV))(params:List Tmp)(assign body:Code):List aC→Option Code→St
 | [],_=>Fp (S.set id (.lp .ready none f n mask env params assign body)) k (.sc (.bool true))
 | _,some c=>Fp (S.set id (.lp .done (some c) f n mask env params assign body)) k (.sc (.bool false))
 | _,none=>.bad 13
def Zk (F:ad)(S:af)(k:cI)(id:Nat):List gx→Option ak→Bool→St
 | [],some (.lp _ _ f n mask env params assign body),true=>ae5 S k id f n mask env params assign body F.todo (yo F.todo)
 | _,_,_=>.bad 37
def lR : cI→Option Nat
 | .round _ _ _ _ _ _ id _=>some id
 | .fE _ _ _ _ _ _ (some id) _=>some id
 | _=>none
def LN (F:ad)(S:af)(k:cI):Option Nat→St
 | some id=>Zk F S k id F.defers (S.get id) (Nat.ble S.lim id)
 | none=>.bad 38
def Qg (fn:Func)(F:ad)(S:af)(k:cI)(td:List aC):Option Nat→St
 | some id=>Zj fn F S k id td (S.get id)
 | none=>.bad 36
def abi (T:FT)(fn:Func)(F:ad)(S:af)(k:cI)(id:Nat)(all:Array Oper)(td:List aC):Bool→Bool→St
 | true,true=>.fE { fn:=fn,F:=wH F td,S:=S,ops:=all,os:=all.toList,i:=0,eH:=[],wm:=Xs T F.fn id,sm:=abh T F.fn id,j9:=[],es:=[] } k
 | _,_=>.bad 46
def Q0 (T:FT)(fn:Func)(F:ad)(S:af)(k:cI)(id:Nat)(all:Array Oper)(td:List aC):St:=
 abi T fn F S k id all td (CE all) (Nat.ble S.lim S.nx)
def LO (T:FT)(fn:Func)(F:ad)(S:af)(k:cI):List aC→St
 | .code (.rangeFunc f params assign body)::td=>acB T fn F S k params assign body td F.round (F.eval f)
 | .code (.region id all true)::td=>Q0 T fn F S k id all td
 | .nj id::td=>Zi fn F S k id td (S.get id)
 | .GS::td=>Qg fn F S k td F.round
 | _=>LN F S k (lR k)
def Zl (fn:Func)(F:ad)(S:af)(k:cI)(o:Oper)(all:Array Oper)(rest:List Nat)(td:List aC)(id f n mask:Nat)(env:List (Nat×AV))(params:List Tmp)(assign body:Code)(args:List AV):Option xE→Bool→St
 | some e,true=>.run e.fn (sB id f n mask env params assign body args) S (.round fn F o all rest td id k)
 | _,_=>.bad 28
def Qh (T:FT)(fn:Func)(F:ad)(S:af)(k:cI)(o:Oper)(all:Array Oper)(rest:List Nat)(td:List aC)(id:Nat)(args:List AV):Option ak→St
 | some (.lp _ _ f n mask env params assign body)=>Zl fn F S k o all rest td id f n mask env params assign body args (FT.look T f) (Nat.beq args.length params.length)
 | _=>.bad 29
def flat : cI→Bool
 | .nil=>true
 | .hole _=>true
 | .call _ _ _ _ _ _ n=>flat n
 | .qT _ _ _ n=>flat n
 | .loop _ _ _ _ _ n=>flat n
 | .round _ _ _ _ _ _ _ n=>flat n
 | .fE .. => false
def Fq (F:ad)(S:af):Op→Option (List (AV×af))
 | .next b false=>match F.eval b with
   | some a=>LJ S a
   | none=>none
 | _=>none
def LP (F:ad)(o:Oper)(all:Array Oper)(rest:List Nat)(td:List aC):List (AV×af)→List (ad×af)
 | []=>[]
 | (v,S)::r=>(mK F o v all rest td,S)::LP F o all rest td r
def L9 (fn:Func)(F:ad)(k:cI)(o:Oper)(all:Array Oper)(rest:List Nat)(td:List aC)(l:List (AV×af)):Bool→St
 | true=>.fork fn k (LP F o all rest td l)
 | false=>.bad 48
def LQ (fn:Func)(F:ad)(k:cI)(o:Oper)(all:Array Oper)(rest:List Nat)(td:List aC):Option (List (AV×af))→St
 | some [(v,S)]=>.run fn (mK F o v all rest td) S k
 | some l=>L9 fn F k o all rest td l (flat k)
 | none=>.bad 18
def K9 (T:FT)(fn:Func)(F:ad)(S:af)(k:cI)(o:Oper)(all:Array Oper)(rest:List Nat)(td:List aC):Option cY→St
 | some (.val v a)=>.run fn (mK F o v all rest td) a k
 | some (.skip a)=>.run fn (mK F o (.bm []) all rest td) a k
 | some (.uh v)=>.run fn (IA F (.panicking [(v,false)])) S k
 | some (.pq id args)=>Qh T fn F S k o all rest td id args (S.get id)
 | none=>LQ fn F k o all rest td (Fq F S o.op)
 | _=>.bad 18
def Q1 (fn:Func)(F:ad)(S:af)(k:cI)(o:Oper)(all:Array Oper)(rest:List Nat)(td:List aC):Option (AV×de)→St
 | some (v,cm)=>.run fn { mK F o v all rest td with cm:=cm } S k
 | none=>.run fn (mK F o (.sc .nilIface) all rest td) S k
def ID (fn:Func)(F:ad)(S:af)(k:cI)(o:Oper)(all:Array Oper)(rest:List Nat)(td:List aC):Option Nat→Option cY→St
 | none,some (.qT f cap args)=>.run fn { mK F o (.bm []) all rest td with defers:=.call f cap args::F.defers } S k
 | none,some .Yg=>match F.kind with
   | .deferred=>Q1 fn F S k o all rest td (sV F.cm)
   | _=>.bad 20
 | _,_=>.bad 21
def YJ (T:FT)(P:Program)(fn:Func)(F:ad)(S:af)(k:cI)(o:Oper)(all:Array Oper)(rest:List Nat)(td:List aC):Bool→St
 | false=>K9 T fn F S k o all rest td (ze P F.eval S o.op)
 | true=>ID fn F S k o all rest td F.round (ze P F.eval S o.op)
def Zm (fn:Func)(F:ad)(S:af)(k:cI)(o:Oper)(all:Array Oper)(rest:List Nat)(td:List aC)(g:Nat)(e:xE)(args:List AV):Option (AV×af)→St
 | some (v,a)=>.run fn (mK F o v all rest td) a k
 | none=>.run e.fn (vN g e args .normal .run) S (.call fn F o all rest td k)
def Ma (fn:Func)(F:ad)(S:af)(k:cI)(o:Oper)(all:Array Oper)(rest:List Nat)(td:List aC)(g:Nat)(e:xE)(args:List AV):Option (List AV→af→Option (AV×af))→St
 | none=>.run e.fn (vN g e args .normal .run) S (.call fn F o all rest td k)
 | some x=>Zm fn F S k o all rest td g e args (x args S)
def Qi (T:FT)(P:Program)(fn:Func)(F:ad)(S:af)(k:cI)(o:Oper)(all:Array Oper)(rest:List Nat)(td:List aC):Option (Nat×xE×List AV)→St
 | some (g,e,args)=>Ma fn F S k o all rest td g e args e.ext
 | none=>YJ T P fn F S k o all rest td false
def Zn (T:FT)(P:Program)(fn:Func)(F:ad)(S:af)(k:cI)(o:Oper)(all:Array Oper)(rest:List Nat)(td:List aC):Option Call→St
 | some c=>Qi T P fn F S k o all rest td (re T F c P)
 | none=>YJ T P fn F S k o all rest td (bT o.op)
def Hl (T:FT)(P:Program)(fn:Func)(F:ad)(S:af)(k:cI)(o:Oper)(all:Array Oper)(rest:List Nat)(td:List aC):Option Bool→St
 | some true=>Zn T P fn F S k o all rest td (hU o.op)
 | some false=>.run fn (mK F o (.bm []) all rest td) S k
 | none=>.bad 11
def Q3 (T:FT)(P:Program)(fn:Func)(F:ad)(S:af)(k:cI)(all:Array Oper)(rest:List Nat)(td:List aC):Option Oper→St
 | some o=>Hl T P fn F S k o all rest td (rP F all o)
 | none=>.bad 12
def Zo (T:FT)(fn:Func)(F:ad)(S:af)(k:cI):Option ad→St
 | some F' => .run fn (N2 10 F') S k
 | none=>LO T fn F S k F.todo
def ae6 (T:FT)(P:Program)(fn:Func)(F:ad)(S:af)(k:cI):List aC→St
 | .ops all (i::rest)::td=>Q3 T P fn F S k all rest td (Jt all i)
 | td=>Zo T fn F S k (Js F td)
def Zp (F:ad)(S:af)(k:cI):Option AV→St
 | some v=>back (.ret v) F.cm S k
 | none=>.bad 14
def Qj (fn:Func)(F:ad)(S:af)(k:cI)(id:Nat)(ds:List gx):Option ak→Bool→St
 | some (.df true),true=>.run fn { F with defers:=ds } (S.set id (.df false)) k
 | _,_=>.bad 27
def Zq (fn:Func)(F:ad)(S:af)(k:cI)(f:Nat)(cap args:List AV)(ds:List gx):Option xE→St
 | some e=>.run e.fn (vN f e (args++cap) .deferred F.mode) S (.qT fn F ds k)
 | none=>.bad 16
def N3 (P:Program)(fn:Func)(F:ad)(S:af)(k:cI):de→St
 | .returning=>Zp F S k (sR P fn F S)
 | .panicking l=>back (.uh l) F.cm S k
 | .run=>.bad 15
def N4 (T:FT)(P:Program)(fn:Func)(F:ad)(S:af)(k:cI):List gx→St
 | []=>N3 P fn F S k F.mode
 | .call f cap args::ds=>Zq fn F S k f cap args ds (FT.look T f)
 | .mf id::ds=>Qj fn F S k id ds (S.get id) (Nat.ble S.lim id)
 | .sI _::_=>.bad 73
def acC (T:FT)(P:Program)(fn:Func)(F:ad)(S:af)(k:cI):de→St
 | .run=>ae6 T P fn F S k F.todo
 | _=>N4 T P fn F S k F.defers
def St.step (T:FT)(P:Program):St→St
 | .run fn F S k=>acC T P fn F S k F.mode
 | .fE D k=>LL T P D k D.os
 | s=>s
def St.rep (T:FT)(P:Program):Nat→St→St
 | 0,s=>s.step T P
 | d+1,s=>match St.rep T P d s with
   | .run fn F S k=>St.rep T P d (.run fn F S k)
   | .fE D k=>St.rep T P d (.fE D k)
   | s=>s
def LS (fn:Func)(k:cI):List (ad×af)→List St
 | []=>[]
 | (F,S)::r=>.run fn F S k::LS fn k r
def St.outs (T:FT)(P:Program)(d:Nat):Nat→List St→Option (List (AV×af))
 | 0,_=>none
 | _+1,[]=>some []
 | n+1,s::r=>match St.rep T P d s with
   | .done (.ret v) S=>match St.outs T P d n r with
     | some l=>some ((v,S)::l)
     | none=>none
   | .fork fn k l=>St.outs T P d n (LS fn k l++r)
   | _=>none
def St.start (T:FT)(f:Nat)(args:List AV)(S:af):St:=
 match FT.look T f with
 | some e=>.run e.fn (vN f e args .normal .run) S .nil
 | none=>.bad 0
end
end Go.Eng

/- One operation on abstract values, and that the model does the same; no conditions. -/
import Derived.Test.YtdabbamabgfeoaaGreatEngG
namespace Go.Eng
noncomputable section

/- What an operation comes to. -/
inductive ARes where
  | val (v : AV) (S : Sto)
  | skip (S : Sto)
  | call (f : FuncId) (args : List AV)
  | yld (id : Nat) (args : List AV)
  | dfr (f : FuncId) (cap args : List AV)
  | rcv
  | pan (v : AV)

def evalL (ρ : Operand → Option AV) : List Operand → Option (List AV)
  | [] => some []
  | x :: r => match ρ x with
    | some v => match evalL ρ r with
      | some l => some (v :: l)
      | none => none
    | none => none
def evalP (ρ : Operand → Option AV) : List (Nat × Operand) → Option (List (Nat × AV))
  | [] => some []
  | (i, x) :: r => match ρ x with
    | some v => match evalP ρ r with
      | some l => some ((i, v) :: l)
      | none => none
    | none => none

def OpR (g : Gh) (ρ : Operand → Option AV) (ρ' : Operand → Value) : Prop := ∀ x v, ρ x = some v → VR g v (ρ' x)

theorem evalL_sound {g : Gh} {ρ : Operand → Option AV} {ρ' : Operand → Value} (h : OpR g ρ ρ') : ∀ {l : List Operand} {vs : List AV}, evalL ρ l = some vs → VRs g vs (l.map ρ').toArray := by
  intro l
  induction l with
  | nil => intro vs e; simp only [evalL, Option.some.injEq] at e; subst e; exact VRs.nil g
  | cons x r ih =>
    intro vs e
    simp only [evalL] at e
    split at e <;> try (simp at e; done)
    rename_i v hv
    split at e <;> simp only [Option.some.injEq, reduceCtorEq] at e
    rename_i l' hl
    subst e
    exact VRs.cons (h x v hv) (ih hl)
theorem evalP_sound {g : Gh} {ρ : Operand → Option AV} {ρ' : Operand → Value} (h : OpR g ρ ρ') : ∀ {l : List (Nat × Operand)} {vs : List (Nat × AV)}, evalP ρ l = some vs → PartsR g vs (l.map fun p => (p.1, ρ' p.2)) := by
  intro l
  induction l with
  | nil => intro vs e; simp only [evalP, Option.some.injEq] at e; subst e; exact .nil
  | cons p r ih =>
    obtain ⟨i, x⟩ := p
    intro vs e
    simp only [evalP] at e
    split at e <;> try (simp at e; done)
    rename_i v hv
    split at e <;> simp only [Option.some.injEq, reduceCtorEq] at e
    rename_i l' hl
    subst e
    exact .cons (h x v hv) (ih hl)

/- A function with a body of Go. -/
def bodyOk (P : Program) (f : FuncId) : Bool :=
  match P.funcs[f]? with
  | some fn => match fn.body with
    | some _ => !(fn.name == "runtime.NumGoroutine")
    | none => false
  | none => false
theorem run_callFunc' {P : Program} {w : World} {f : FuncId} {xs : Array Value} (h : bodyOk P f = true) : (callFunc f xs).run P w = .ok (.enter f xs) w := by
  unfold bodyOk at h
  split at h <;> try (simp at h; done)
  rename_i fn hf
  split at h <;> try (simp at h; done)
  rename_i b hb
  simp only [Bool.not_eq_true'] at h
  simp only [callFunc, Sem.run_bind, run_program, Result.andThen_ok, hf]
  rw [if_neg (by rw [h]; simp)]
  simp [hb]

/- The function of a method of a value in an interface: its receiver is the value. -/
def methAV (P : Program) (t : TypeId) (name : String) : Option FuncId :=
  match P.info? t with
  | some i => match i.methods.find? (·.name == name) with
    | some m => match m.path.toList, m.func, P.underlying t with
      | [], some (f, true), some (.pointer _) => some f
      | [], some (_, false), some (.pointer _) => none
      | [], some (f, false), some _ => some f
      | _, _, _ => none
    | none => none
  | none => none
theorem run_method {P : Program} {w : World} {t : TypeId} {name : String} {f : FuncId} {v : Value} {n : Nat} (h : methAV P t name = some f) : (method (n + 1) t v name).run P w = .ok (f, v) w := by
  unfold methAV at h
  split at h <;> try (simp at h; done)
  rename_i i hi
  split at h <;> try (simp at h; done)
  rename_i m hm
  have hpath : ∀ {l : List FieldStep}, m.path.toList = l → m.path = l.toArray := fun e => by rw [← e]
  split at h <;> simp only [Option.some.injEq, reduceCtorEq] at h
  · rename_i a e hp hf hu
    subst h
    simp [method, run_typeInfo' hi, hm, hpath hp, follow, hf, receiverAt, run_underlying' hu, Place.get]
  · rename_i a d hne hp hf hu
    subst h
    simp only [method, Sem.run_bind, run_typeInfo' hi, Result.andThen_ok, hm, hp, follow, Sem.run_pure, hf, receiverAt, run_underlying' hu]
    cases d <;> first | exact (hne _ rfl).elim | simp [Place.get]

def builtinAV (P : Program) (S : Sto) (b : Builtin) (ts : List TypeId) (args : List AV) : Option ARes :=
  match b, args with
  | .append, [s, x] => match appendAV P S ts s x with
    | some (v, S') => some (.val v S')
    | none => match appendZ P S ts s x with
      | some (v, S') => some (.val v S')
      | none => none
  | .len, [x] => match ts with
    | t :: _ => match lenAV P S t x.unclip with
      | some n => some (.val (.sc (.int .i64 n)) S)
      | none => none
    | [] => none
  | .cap, [x] => match ts with
    | t :: _ => match capAV P t x with
      | some n => some (.val (.sc (.int .i64 n)) S)
      | none => none
    | [] => none
  | .copy, [d, x] => match copyAV P S ts d x with
    | some (n, S') => some (.val (.sc (.int .i64 n)) S')
    | none => none
  | .max, _ => match maxAV true args with
    | some v => some (.val v S)
    | none => none
  | .min, _ => match maxAV false args with
    | some v => some (.val v S)
    | none => none
  | .panic, [.ifc t v] => some (.pan (.ifc t v))
  | .recover, [] => some .rcv
  | _, _ => none

def callAV (P : Program) (ρ : Operand → Option AV) (S : Sto) (c : Call) : Option ARes :=
  match evalL ρ c.args.toList with
  | some args => match c.callee with
    | .builtin b => builtinAV P S b c.argTypes.toList args
    | .invoke r name => match ρ r with
      | some (.ifc t v) => match methAV P t name with
        | some f => match bodyOk P f with
          | true => some (.call f (v :: args))
          | false => none
        | none => none
      | _ => none
    | .value f => match ρ f with
      | some (.fn (.func g) first cap) => match bodyOk P g with
        | true => some (.call g (first ++ args ++ cap))
        | false => none
      | some (.yld id) => some (.yld id args)
      | _ => none
  | none => none

def vOf (S : Sto) : Option AV → Option ARes
  | some v => some (.val v S)
  | none => none
def pOf : Option (AV × Sto) → Option ARes
  | some (v, S) => some (.val v S)
  | none => none
def sOf : Option Sto → Option ARes
  | some S => some (.skip S)
  | none => none

def isConstO : Operand → Bool
  | .const _ => true
  | _ => false

def aop (P : Program) (ρ : Operand → Option AV) (S : Sto) (o : Op) : Option ARes :=
  match o with
  | .move x => vOf S (ρ x)
  | .assign x => vOf S (ρ x)
  | .pick c a b => match ρ c with
    | some (.sc (.bool true)) => vOf S (ρ a)
    | some (.sc (.bool false)) => vOf S (ρ b)
    | _ => none
  | .alloc t => match zeroAV P t with
    | some z => pOf (boxAV S z)
    | none => none
  | .box _ x => match ρ x with
    | some v => pOf (boxAV S v)
    | none => none
  | .build t ps => match evalP ρ ps.toList with
    | some l => vOf S (buildAV P t l)
    | none => none
  | .buildSlice t n ps => match evalP ρ ps.toList with
    | some l => pOf (buildSliceAV P S t n l)
    | none => none
  | .load t a => match ρ a with
    | some p => match ptrCells S p with
      | some cs => vOf S (loadAV P t cs)
      | none => none
    | none => none
  | .store t a x => match ρ a, ρ x with
    | some p, some v => sOf (storeAV P S t p v)
    | _, _ => none
  | .nilCheck x => match ρ x with
    | some (.ptr id i j) => some (.val (.ptr id i j) S)
    | some (.lptr cs) => some (.val (.lptr cs) S)
    | some (.fn (.func f) a b) => some (.val (.fn (.func f) a b) S)
    | some (.yld id) => some (.val (.yld id) S)
    | some (.ifc t v) => some (.val (.ifc t v) S)
    | _ => none
  | .binOp op t x y _ => match ρ x, ρ y with
    | some (.sc .nilIface), some (.sc .nilIface) => match P.underlying t with
      | some (.interface _) => match isConstO x || isConstO y with
        | true => vOf S (eqRes op true)
        | false => none
      | _ => none
    | some a, some b => vOf S (binAV P op t a b)
    | _, _ => none
  | .unOp op _ x => match ρ x with
    | some a => vOf S (unAV op a)
    | none => none
  | .convert s d x => match ρ x with
    | some a => vOf S (convAV P s d a)
    | none => none
  | .makeInterface t x => match P.underlying t, ρ x with
    | some (.interface _), _ => none
    | some _, some v => some (.val (.ifc t v) S)
    | _, _ => none
  | .makeFunc f a b => match evalL ρ a.toList, evalL ρ b.toList with
    | some x, some y => some (.val (.fn f x y) S)
    | _, _ => none
  | .makeMap _ none => pOf (makeMapAV S)
  | .makeSlice t l c => match ρ l, ρ c with
    | some x, some y => pOf (makeSliceAV P S t x y)
    | _, _ => none
  | .slice t x lo hi none => match ρ x, (match lo with
      | none => some none
      | some a => match ρ a with
        | some v => some (some v)
        | none => none), (match hi with
      | none => some none
      | some a => match ρ a with
        | some v => some (some v)
        | none => none) with
    | some a, some l, some h => vOf S (sliceAV P S t a.unclip l h)
    | _, _, _ => none
  | .slice t x none (some hi) (some mx) => match ρ x, ρ hi, ρ mx with
    | some a, some h, some m => vOf S (clipAV P t a h m)
    | _, _, _ => none
  | .fieldAddr s x f => match ρ x with
    | some a => vOf S (fieldAddrAV P s a f)
    | none => none
  | .field t x f => match ρ x with
    | some a => vOf S (fieldAV P t a f)
    | none => none
  | .indexAddr t x ix => match ρ x, ρ ix with
    | some a, some b => vOf S (indexAddrAV P S t a.unclip b)
    | _, _ => none
  | .index t x ix => match ρ x, ρ ix with
    | some a, some b => vOf S (indexAV P t a b)
    | _, _ => none
  | .lookup t x ix ok => match ρ x, ρ ix with
    | some a, some b => vOf S (lookupAV P S t a b ok)
    | _, _ => none
  | .mapUpdate t m k x => match ρ m, ρ k, ρ x with
    | some a, some b, some c => sOf (updateAV P S t a b c)
    | _, _, _ => none
  | .insert t m k x => match ρ m, ρ k, ρ x with
    | some a, some b, some c => sOf (updateAV P S t a b c)
    | _, _, _ => none
  | .range t x => match ρ x with
    | some a => pOf (rangeAV P S t a)
    | none => none
  | .next it s => match ρ it with
    | some a => pOf (nextAV S a s)
    | none => none
  | .entry it => match ρ it with
    | some a => vOf S (entryAV S a)
    | none => none
  | .typeAssert x _ t ok => match ρ x with
    | some a => vOf S (assertAV P t a ok)
    | none => none
  | .extract t ix => match ρ t with
    | some (.tup vs) => vOf S (nth vs ix)
    | _ => none
  | .call c => callAV P ρ S c
  | .defer c => match evalL ρ c.args.toList with
    | some args => match c.callee with
      | .value f => match ρ f with
        | some (.fn (.func g) first cap) => match bodyOk P g with
          | true => some (.dfr g cap (first ++ args))
          | false => none
        | _ => none
      | _ => none
    | none => none
  | .panic x => match ρ x with
    | some (.ifc t v) => some (.pan (.ifc t v))
    | _ => none
  | _ => none

/- That the model does the same. -/
def AopS (P : Program) (ρ' : Operand → Value) (S : Sto) (g : Gh) (w : World) (o : Oper) : ARes → Prop
  | .val v S' => ∃ x w' g', (execOp ρ' o).run P w = .ok (.value x) w' ∧ VR g' v x ∧ Inv S' g' w' ∧ Ext S g w S' g' w'
  | .skip S' => ∃ w' g', (execOp ρ' o).run P w = .ok .skip w' ∧ Inv S' g' w' ∧ Ext S g w S' g' w'
  | .call f args => ∃ xs, (execOp ρ' o).run P w = .ok (.enter f xs) w ∧ VRs g args xs
  | .yld id args => ∃ l xs, g.ph id = some l ∧ (execOp ρ' o).run P w = (Instr.yield l.blk xs).run P w ∧ VRs g args xs
  | .dfr f cap args => ∃ ys xs, (execOp ρ' o).run P w = .ok (.defer { target := .fn (.func f) ys, args := xs }) w ∧ VRs g cap ys ∧ VRs g args xs ∧ bodyOk P f = true
  | .rcv => (execOp ρ' o).run P w = .ok .recover w
  | .pan v => ∃ x, (execOp ρ' o).run P w = .halt (.panic x) w ∧ VR g v x

section
variable {P : Program} {ρ' : Operand → Value} {S : Sto} {g : Gh} {w : World} {o : Oper}
theorem AopS.v {r : Option AV} {res : ARes} (hi : Inv S g w) (h : vOf S r = some res) (hx : ∀ v, r = some v → ∃ x, (execOp ρ' o).run P w = .ok (.value x) w ∧ VR g v x) : AopS P ρ' S g w o res := by
  cases r with
  | none => simp [vOf] at h
  | some v =>
    simp only [vOf, Option.some.injEq] at h; subst h
    obtain ⟨x, e, hv⟩ := hx v rfl
    exact ⟨x, w, g, e, hv, hi, Ext.refl _ _ _⟩
theorem AopS.p {r : Option (AV × Sto)} {res : ARes} (h : pOf r = some res) (hx : ∀ v S', r = some (v, S') → ∃ x w' g', (execOp ρ' o).run P w = .ok (.value x) w' ∧ VR g' v x ∧ Inv S' g' w' ∧ Ext S g w S' g' w') : AopS P ρ' S g w o res := by
  cases r with
  | none => simp [pOf] at h
  | some p =>
    obtain ⟨v, S'⟩ := p
    simp only [pOf, Option.some.injEq] at h; subst h
    exact hx v S' rfl
theorem AopS.s {r : Option Sto} {res : ARes} (h : sOf r = some res) (hx : ∀ S', r = some S' → ∃ w' g', (execOp ρ' o).run P w = .ok .skip w' ∧ Inv S' g' w' ∧ Ext S g w S' g' w') : AopS P ρ' S g w o res := by
  cases r with
  | none => simp [sOf] at h
  | some S' =>
    simp only [sOf, Option.some.injEq] at h; subst h
    exact hx S' rfl
end

theorem builtinAV_sound {P : Program} {S : Sto} {g : Gh} {w : World} (hi : Inv S g w) {b : Builtin} {ts : List TypeId} {ty : TypeId} {cs : Array Bool} {args : List AV} {xs : Array Value} {res : ARes} {ρ' : Operand → Value} {o : Oper}
    (h : builtinAV P S b ts args = some res) (hv : VRs g args xs) (ho : ∀ w', (execOp ρ' o).run P w' = (builtin b ts.toArray ty cs xs).run P w') : AopS P ρ' S g w o res := by
  have two : ∀ {a b : AV}, args = [a, b] → ∃ x y, xs = #[x, y] ∧ VR g a x ∧ VR g b y := by
    intro a b e
    subst e
    obtain ⟨x, e1, h1⟩ := hv.get (k := 0) rfl
    obtain ⟨y, e2, h2⟩ := hv.get (k := 1) rfl
    refine ⟨x, y, ?_, h1, h2⟩
    apply Array.ext'
    apply List.ext_getElem?; intro k
    match k with
    | 0 => simpa using e1
    | 1 => simpa using e2
    | k + 2 => rw [List.getElem?_eq_none (by have := hv.1; simp at this ⊢; omega)]; simp
  have one : ∀ {a : AV}, args = [a] → ∃ x, xs = #[x] ∧ VR g a x := by
    intro a e
    subst e
    obtain ⟨x, e1, h1⟩ := hv.get (k := 0) rfl
    refine ⟨x, ?_, h1⟩
    apply Array.ext'
    apply List.ext_getElem?; intro k
    match k with
    | 0 => simpa using e1
    | k + 1 => rw [List.getElem?_eq_none (by have := hv.1; simp at this ⊢; omega)]; simp
  unfold builtinAV at h
  split at h <;> try (simp at h; done)
  · rename_i s x
    obtain ⟨sv, xv, rfl, h1, h2⟩ := two rfl
    split at h
    · rename_i v S' he
      simp only [Option.some.injEq] at h
      subst h
      obtain ⟨z, w', g', r1, r2, r3, r4⟩ := appendAV_sound (P := P) (t := ty) hi he h1 h2
      exact ⟨z, w', g', by rw [ho]; simp [builtin, r1], r2, r3, r4⟩
    · split at h <;> simp only [Option.some.injEq, reduceCtorEq] at h
      rename_i v S' he
      subst h
      obtain ⟨z, w', g', r1, r2, r3, r4⟩ := appendZ_sound (P := P) (t := ty) hi he h1 h2
      exact ⟨z, w', g', by rw [ho]; simp [builtin, r1], r2, r3, r4⟩
  · rename_i x
    obtain ⟨xv, rfl, h1⟩ := one rfl
    split at h <;> try (simp at h; done)
    rename_i t ts
    split at h <;> simp only [Option.some.injEq, reduceCtorEq] at h
    rename_i n he
    subst h
    exact ⟨_, w, g, by rw [ho]; simp [builtin, lenAV_sound (P := P) (ty := ty) (ts := ts) hi he h1.unclip], .sc rfl, hi, Ext.refl _ _ _⟩
  · rename_i x
    obtain ⟨xv, rfl, h1⟩ := one rfl
    split at h <;> try (simp at h; done)
    rename_i t ts
    split at h <;> simp only [Option.some.injEq, reduceCtorEq] at h
    rename_i n he
    subst h
    exact ⟨_, w, g, by rw [ho]; simp [builtin, capAV_sound (P := P) (w := w) (ty := ty) (ts := ts) he h1], .sc rfl, hi, Ext.refl _ _ _⟩
  · rename_i d x
    obtain ⟨dv, xv, rfl, h1, h2⟩ := two rfl
    split at h <;> simp only [Option.some.injEq, reduceCtorEq] at h
    rename_i n S' he
    subst h
    obtain ⟨w', r1, r2, r3⟩ := copyAV_sound (P := P) (t := ty) hi he h1 h2
    exact ⟨_, w', g, by rw [ho]; simp [builtin, r1], .sc rfl, r2, r3⟩
  · split at h <;> simp only [Option.some.injEq, reduceCtorEq] at h
    rename_i v he
    subst h
    obtain ⟨z, r1, r2⟩ := maxAV_sound (P := P) (w := w) (ts := ts.toArray) (t := ty) he hv
    exact ⟨z, w, g, by rw [ho]; simp [builtin, r1], r2, hi, Ext.refl _ _ _⟩
  · split at h <;> simp only [Option.some.injEq, reduceCtorEq] at h
    rename_i v he
    subst h
    obtain ⟨z, r1, r2⟩ := minAV_sound (P := P) (w := w) (ts := ts.toArray) (t := ty) he hv
    exact ⟨z, w, g, by rw [ho]; simp [builtin, r1], r2, hi, Ext.refl _ _ _⟩
  · rename_i t v
    obtain ⟨xv, rfl, h1⟩ := one rfl
    simp only [Option.some.injEq] at h; subst h
    cases h1 with
    | ifc h1 => exact ⟨_, by rw [ho]; simp [builtin, Instr.panic], .ifc h1⟩
  · simp only [Option.some.injEq] at h; subst h
    show (execOp ρ' o).run P w = _
    rw [ho]; simp [builtin]

end
end Go.Eng

/- A machine on abstract values: functions, calls, drawn regions; no conditions. -/
import Derived.Test.YtdabbamabgfeoaaGreatEngP
namespace Go.Eng
noncomputable section

/- The same as elsewhere, with every part of a frame taken out at once. -/
def fset (F : AFrame) (t : Nat) (v : AV) : AFrame :=
  match F with
  | ⟨fn, n, mask, loc, glob, todo, defers, mode, kind, cm, round⟩ => match Nat.ble (t + 1) n with
    | true => match tb mask t with
      | true => ⟨fn, n, mask, loc, up glob t v, todo, defers, mode, kind, cm, round⟩
      | false => ⟨fn, n, mask, (t, v) :: loc, glob, todo, defers, mode, kind, cm, round⟩
    | false => ⟨fn, n, mask, loc, glob, todo, defers, mode, kind, cm, round⟩
theorem fset_eq (F : AFrame) (t : Nat) (v : AV) : fset F t v = F.set t v := by
  cases F with | mk a n m b c d e f g h i => ?_
  simp only [fset, AFrame.set]
  cases Nat.ble (t + 1) n <;> cases tb m t <;> rfl
def fput (F : AFrame) (d : Option Tmp) (v : AV) : AFrame :=
  match d with
  | some t => fset F t v
  | none => F
theorem fput_eq (F : AFrame) (d : Option Tmp) (v : AV) : fput F d v = F.put d v := by
  cases d with
  | none => rfl
  | some t => exact fset_eq F t v
def ftodo (F : AFrame) (td : List AItem) : AFrame :=
  match F with
  | ⟨fn, n, mask, loc, glob, _, defers, mode, kind, cm, round⟩ => ⟨fn, n, mask, loc, glob, td, defers, mode, kind, cm, round⟩
theorem ftodo_eq (F : AFrame) (td : List AItem) : ftodo F td = { F with todo := td } := rfl
def flocs (F : AFrame) (td : List AItem) : AFrame :=
  match F with
  | ⟨fn, n, mask, _, glob, _, defers, mode, kind, cm, round⟩ => ⟨fn, n, mask, [], glob, td, defers, mode, kind, cm, round⟩
theorem flocs_eq (F : AFrame) (td : List AItem) : flocs F td = { F with todo := td, loc := [] } := rfl
def fmode (F : AFrame) (md : AMode) : AFrame :=
  match F with
  | ⟨fn, n, mask, loc, glob, todo, defers, _, kind, cm, round⟩ => ⟨fn, n, mask, loc, glob, todo, defers, md, kind, cm, round⟩
theorem fmode_eq (F : AFrame) (md : AMode) : fmode F md = { F with mode := md } := rfl
def fafter (F : AFrame) (o : Oper) (v : AV) (all : Array Oper) (rest : List Nat) (k : List AItem) : AFrame := ftodo (fput F o.dst v) (.ops all rest :: k)
theorem fafter_eq (F : AFrame) (o : Oper) (v : AV) (all : Array Oper) (rest : List Nat) (k : List AItem) : fafter F o v all rest k = F.after o v all rest k := by
  unfold fafter AFrame.after
  rw [fput_eq, ftodo_eq]
def fback (F : AFrame) (o : Oper) (all : Array Oper) (rest : List Nat) (k : List AItem) : Res → AFrame
  | .ret v => fafter F o v all rest k
  | .pan l => fmode F (.panicking l)
theorem fback_eq (F : AFrame) (o : Oper) (all : Array Oper) (rest : List Nat) (k : List AItem) (r : Res) : fback F o all rest k r = F.back o all rest k r := by
  cases r with
  | ret v => exact fafter_eq F o v all rest k
  | pan l => rfl
def fend (F : AFrame) : Option Nat → Option AFrame
  | none => some (fmode F .returning)
  | some _ => none
def fcond (F : AFrame) (td : List AItem) (x y : Code) : Option AV → Option AFrame
  | some (.sc (.bool true)) => some (ftodo F (.code x :: td))
  | some (.sc (.bool false)) => some (ftodo F (.code y :: td))
  | _ => none
def fexit (F : AFrame) : Option (List AItem) → Option AFrame
  | some td => some (ftodo F td)
  | none => none
def fcode (F : AFrame) (td : List AItem) : Code → Option AFrame
  | .ret => fend F F.round
  | .skip => some (ftodo F td)
  | .label _ => some (ftodo F td)
  | .seq x y => some (ftodo F (.code x :: .code y :: td))
  | .cond c x y => fcond F td x y (F.eval c)
  | .block id x => some (ftodo F (.code x :: .inBlock id :: td))
  | .loop x => some (ftodo F (.code x :: .inLoop x :: td))
  | .scope x => some (ftodo F (.code x :: .inScope x :: td))
  | .exit id => fexit F (aexit id td)
  | .region _ all false => some (flocs F (.ops all (List.range all.size) :: td))
  | _ => none
def fitem (F : AFrame) (td : List AItem) : AItem → Option AFrame
  | .code c => fcode F td c
  | .inBlock _ => some (ftodo F td)
  | .inScope _ => some (ftodo F td)
  | .inLoop x => some (ftodo F (.code x :: .inLoop x :: td))
  | .ops _ [] => some (flocs F td)
  | _ => none
def fctl (F : AFrame) : List AItem → Option AFrame
  | [] => fend F F.round
  | it :: td => fitem F td it
theorem fctl_eq {F : AFrame} (hm : F.mode = .run) : fctl F F.todo = actl F := by
  obtain ⟨fn, n, mask, loc, glob, todo, defers, mode, kind, cm, round⟩ := F
  simp only at hm
  subst hm
  cases todo with
  | nil => cases round <;> rfl
  | cons it td =>
    cases it with
    | code c =>
      cases c with
      | ret => cases round <;> rfl
      | region id all d => cases d <;> rfl
      | cond c x y => rfl
      | exit id => rfl
      | _ => rfl
    | ops all l => cases l <;> rfl
    | _ => rfl

/- The operation of a number. -/
noncomputable def nthR (l : List Oper) : Nat → Option Oper :=
  List.rec (motive := fun _ => Nat → Option Oper) (fun _ => none) (fun a _ ih i => Nat.rec (motive := fun _ => Option Oper) (some a) (fun n _ => ih n) i) l
theorem nthR_eq : ∀ (l : List Oper) (i : Nat), nthR l i = l[i]? := by
  intro l
  induction l with
  | nil => intro i; rfl
  | cons a r ih =>
    intro i
    cases i with
    | zero => rfl
    | succ i => exact (ih i).trans (by simp)
noncomputable def opAt (all : Array Oper) (i : Nat) : Option Oper := nthR all.toList i
theorem opAt_eq (all : Array Oper) (i : Nat) : opAt all i = all[i]? := by unfold opAt; rw [nthR_eq]; simp

/- Plain control as far as the next operation. -/
def fgo (F : AFrame) (td : List AItem) : AMode → Option AFrame
  | .run => fctl F td
  | _ => none
def fgoN : Nat → AFrame → AFrame
  | 0, F => F
  | n + 1, F => match fgo F F.todo F.mode with
    | some F' => fgoN n F'
    | none => F
theorem fgoN_reach {P : Program} {S : Sto} {G : AFrame → Sto → Prop} : ∀ (n : Nat) {F : AFrame}, Reach P (fgoN n F) S G → Reach P F S G := by
  intro n
  induction n with
  | zero => intro F h; exact h
  | succ n ih =>
    intro F h
    simp only [fgoN] at h
    cases hg : fgo F F.todo F.mode with
    | none => rw [hg] at h; exact h
    | some F' =>
      rw [hg] at h
      have h := ih h
      have hm : F.mode = .run := by
        cases hm : F.mode with
        | run => rfl
        | returning => rw [hm] at hg; simp [fgo] at hg
        | panicking l => rw [hm] at hg; simp [fgo] at hg
      have hf : fctl F F.todo = some F' := by
        rw [hm] at hg
        exact hg
      rw [fctl_eq hm] at hf
      exact Reach.ctl hf h

structure Ent where
  fn : Func
  body : Code
  mask : Nat
  wide : List (Nat × Nat)
  sep : List (Nat × Nat)
  ext : Option (List AV → Sto → Option (AV × Sto))
  deriving Inhabited

inductive FT where
  | nil
  | node (o : Option Ent) (l r : FT)
def FT.get : Nat → FT → Nat → Option Ent
  | _, .nil, _ => none
  | 0, .node o _ _, _ => o
  | d + 1, .node _ l r, i => match Nat.beq (i % 2) 0 with
    | true => FT.get d l (i / 2)
    | false => FT.get d r (i / 2)
def FT.set : Nat → FT → Nat → Ent → FT
  | 0, _, _, v => .node (some v) .nil .nil
  | d + 1, .nil, i, v => match Nat.beq (i % 2) 0 with
    | true => .node none (FT.set d .nil (i / 2) v) .nil
    | false => .node none .nil (FT.set d .nil (i / 2) v)
  | d + 1, .node o l r, i, v => match Nat.beq (i % 2) 0 with
    | true => .node o (FT.set d l (i / 2) v) r
    | false => .node o l (FT.set d r (i / 2) v)

def FT.look (T : FT) (f : Nat) : Option Ent :=
  match Nat.ble (f + 1) 1024 with
  | true => FT.get 10 T f
  | false => none
/- Another function that is stood in. -/
def FT.setx : Nat → FT → Nat → (List AV → Sto → Option (AV × Sto)) → FT
  | _, .nil, _, _ => .nil
  | 0, .node o l r, _, x => .node (match o with
    | some e => some { e with ext := some x }
    | none => none) l r
  | d + 1, .node o l r, i, x => match Nat.beq (i % 2) 0 with
    | true => .node o (FT.setx d l (i / 2) x) r
    | false => .node o l (FT.setx d r (i / 2) x)

def lkN : List (Nat × Nat) → Nat → Nat
  | [], _ => 0
  | (k, v) :: r, t => match Nat.beq k t with
    | true => v
    | false => lkN r t
def edgeMask (pms : List (Nat × Nat)) : List Edge → Nat
  | [] => 0
  | e :: r => match Region.binds .any e with
    | true => Nat.lor (Nat.lor (Nat.shiftLeft 1 e.on) (lkN pms e.on)) (edgeMask pms r)
    | false => edgeMask pms r

/- What is to hold of a drawn region: edges lead back; what is unordered is apart. -/
def okEdges (i : Nat) : List Edge → Bool
  | [] => true
  | e :: r => match Region.binds .any e with
    | true => match Nat.ble (e.on + 1) i with
      | true => okEdges i r
      | false => false
    | false => okEdges i r
def okDone (ops : Array Oper) (o : Oper) (m : Nat) : List (Nat × Oper) → Bool
  | [] => true
  | (j, p) :: r => match tb m j with
    | true => okDone ops o m r
    | false => match o.apart ops p with
      | true => okDone ops o m r
      | false => false
def regGo (ops : Array Oper) : List Oper → Nat → List (Nat × Nat) → List (Nat × Oper) → Bool
  | [], _, _, _ => true
  | o :: os, i, pms, done => match okEdges i o.after.toList with
    | true => match okDone ops o (edgeMask pms o.after.toList) done with
      | true => regGo ops os (i + 1) ((i, edgeMask pms o.after.toList) :: pms) ((i, o) :: done)
      | false => false
    | false => false
def regOk (ops : Array Oper) : Bool := regGo ops ops.toList 0 [] []

abbrev Chg := List (Nat × Option AObj)
/- What an operation has changed: these, or anything of this range. -/
inductive ChS where
  | lst (c : Chg)
  | wide (lim nx : Nat)

/- A drawn region under way. -/
structure DSt where
  fn : Func
  F : AFrame
  S : Sto
  ops : Array Oper
  os : List Oper
  i : Nat
  pms : List (Nat × Nat)
  wm : Nat
  sm : Nat
  chs : List (Nat × ChS)
  es : List (Nat × Sto)

/- How a call in a drawn region is held apart: it writes nothing that was there; all that is unordered is out of its sight; it sees what it reaches. -/
inductive DM where
  | quiet
  | wide (hid : List Nat)
  | sep (ids : List Nat)

inductive Kont where
  | nil
  | call (fn : Func) (F : AFrame) (o : Oper) (all : Array Oper) (rest : List Nat) (k : List AItem) (next : Kont)
  | dfr (fn : Func) (F : AFrame) (ds : List ADef) (next : Kont)
  | loop (fn : Func) (F : AFrame) (d l : Nat) (k : List AItem) (next : Kont)
  | round (fn : Func) (F : AFrame) (o : Oper) (all : Array Oper) (rest : List Nat) (k : List AItem) (id : Nat) (next : Kont)
  | drw (D : DSt) (o : Oper) (os : List Oper) (E : Sto) (pi : Nat) (hid : DM) (rnd : Option Nat) (next : Kont)

inductive St where
  | run (fn : Func) (F : AFrame) (S : Sto) (k : Kont)
  | drw (D : DSt) (k : Kont)
  | done (r : Res) (S : Sto)
  | fork (fn : Func) (k : Kont) (l : List (AFrame × Sto))
  | bad (why : Nat)

def lkC : Chg → Nat → Bool
  | [], _ => false
  | (k, _) :: r, t => match Nat.beq k t with
    | true => true
    | false => lkC r t
def ChS.has : ChS → Nat → Bool
  | .lst c, t => lkC c t
  | .wide lim nx, t => match Nat.ble lim t with
    | true => Nat.ble (t + 1) nx
    | false => false
/- No operation that is not bound ahead has changed this object. -/
def clearOf (pi : Nat) : List (Nat × ChS) → Nat → Bool
  | [], _ => true
  | (j, c) :: r, id => match tb pi j with
    | true => clearOf pi r id
    | false => match c.has id with
      | true => false
      | false => clearOf pi r id
/- No operation that is not bound ahead saw this object. -/
def unseen (pi : Nat) : List (Nat × Sto) → Nat → Bool
  | [], _ => true
  | (j, E) :: r, id => match tb pi j with
    | true => unseen pi r id
    | false => match E.get id with
      | some _ => false
      | none => unseen pi r id

def avIds : AV → List Nat
  | .clip (.sref id _ _) => [id]
  | .ptr id _ _ => [id]
  | .sref id _ _ => [id]
  | .mapr id => [id]
  | .yld id => [id]
  | _ => []
def opIds (F : AFrame) : List Operand → List Nat
  | [] => []
  | x :: r => match F.eval x with
    | some v => avIds v ++ opIds F r
    | none => opIds F r

def needs (o : Op) : List Operand :=
  match o with
  | .store _ a _ => [a]
  | .mapUpdate _ m k _ => [m, k]
  | .insert _ m k _ => [m, k]
  | _ => o.operands.toList
/- The objects of these numbers, as far as they may be seen. -/
def seen (S : Sto) (pi : Nat) (chs : List (Nat × ChS)) : List Nat → PT → PT
  | [], m => m
  | id :: r, m => match clearOf pi chs id with
    | true => match S.get id with
      | some o => seen S pi chs r (PT.set dep m id (some o))
      | none => seen S pi chs r m
    | false => seen S pi chs r m
/- The numbers that may not be seen. -/
def hidden (pi : Nat) : List (Nat × ChS) → Option (List Nat)
  | [] => some []
  | (j, c) :: r => match tb pi j with
    | true => hidden pi r
    | false => match c with
      | .wide _ _ => none
      | .lst c => match hidden pi r with
        | some l => some (c.map (·.1) ++ l)
        | none => none
def hide (m : PT) : List Nat → PT
  | [] => m
  | id :: r => hide (PT.set dep m id none) r
def rehide (S : Sto) (m : PT) : List Nat → PT
  | [] => m
  | id :: r => rehide S (PT.set dep m id (S.get id)) r
def allIn (pi : Nat) : List (Nat × Sto) → Bool
  | [] => true
  | (j, _) :: r => match tb pi j with
    | true => allIn pi r
    | false => false

def putC (m : PT) : Chg → PT
  | [] => m
  | (id, o) :: r => putC (PT.set dep m id o) r

/- What is reached from these values among the objects from lo on. -/
def children : AObj → List AV
  | .arr _ es => es
  | .mp kvs => kvs.map (·.1) ++ kvs.map (·.2)
  | .lp _ _ _ _ _ env _ _ _ => env.map (·.2)
  | _ => []
def parts : AV → List AV
  | .agg cs => cs
  | .lit es => es
  | .lptr es => es
  | .fn _ a b => a ++ b
  | .ifc _ x => [x]
  | .clip x => [x]
  | .tup vs => vs
  | _ => []
def gobj (E : Sto) (lo : Nat) (acc : Chg) (id : Nat) : Option AObj :=
  match Nat.ble lo id with
  | true => match lkC acc id with
    | true => none
    | false => E.get id
  | false => none
def gfuel : Nat := 1000000
def gather (E : Sto) (lo : Nat) : Nat → List AV → Chg → Chg
  | 0, _, acc => acc
  | _, [], acc => acc
  | n + 1, v :: r, acc => match avIds v with
    | [] => gather E lo n (parts v ++ r) acc
    | id :: _ => match gobj E lo acc id with
      | some o => gather E lo n (children o ++ r) ((id, some o) :: acc)
      | none => gather E lo n r acc

def kids (S : Sto) : List Nat → List AV
  | [] => []
  | id :: r => match S.get id with
    | some o => children o ++ kids S r
    | none => kids S r
def clearC (pi : Nat) (chs : List (Nat × ChS)) : Chg → Chg
  | [] => []
  | (id, o) :: r => match clearOf pi chs id with
    | true => (id, o) :: clearC pi chs r
    | false => clearC pi chs r
def above (lim : Nat) : Chg → List Nat
  | [] => []
  | (id, _) :: r => match Nat.ble lim id with
    | true => id :: above lim r
    | false => above lim r
def newIds (E : Sto) (n : Nat) : Nat → Chg
  | 0 => []
  | k + 1 => match E.get (n + k) with
    | some o => (n + k, some o) :: newIds E n k
    | none => newIds E n k
def oldIds (E S : Sto) : List Nat → Chg
  | [] => []
  | id :: r => match E.get id with
    | some _ => (id, S.get id) :: oldIds E S r
    | none => oldIds E S r

def aboveL (lim : Nat) : List Nat → List Nat
  | [] => []
  | id :: r => match Nat.ble lim id with
    | true => id :: aboveL lim r
    | false => aboveL lim r
def allUnseen (pi : Nat) (es : List (Nat × Sto)) (nx : Nat) : List Nat → Bool
  | [] => true
  | id :: r => match Nat.ble nx id with
    | true => allUnseen pi es nx r
    | false => match unseen pi es id with
      | true => allUnseen pi es nx r
      | false => false

def chgs (i : Nat) (c : Chg) (chs : List (Nat × ChS)) : List (Nat × ChS) :=
  match c with
  | [] => chs
  | _ => (i, .lst c) :: chs
def sees (i : Nat) (E : Option Sto) (es : List (Nat × Sto)) : List (Nat × Sto) :=
  match E with
  | some E => (i, E) :: es
  | none => es
def DSt.next (D : DSt) (o : Oper) (os : List Oper) (pi : Nat) (v : AV) (nx : Nat) (c : Chg) (E : Option Sto) : DSt :=
  match D with
  | ⟨fn, F, ⟨_, lim, m⟩, ops, _, i, pms, wm, sm, chs, es⟩ =>
    ⟨fn, fput F o.dst v, ⟨nx, lim, putC m c⟩, ops, os, Nat.succ i, (i, pi) :: pms, wm, sm, chgs i c chs, sees i E es⟩

/- An operation of a drawn region that is no call: with no object, with objects to read, with objects to write. -/
def dres (D : DSt) (o : Oper) (os : List Oper) (pi : Nat) (k : Kont) (E : Sto) (ids : List Nat) (sees : Option Sto) : Option ARes → Option St
  | some (.val v S1) => some (.drw (D.next o os pi v S1.nx (oldIds E S1 ids ++ newIds S1 E.nx (S1.nx - E.nx)) sees) k)
  | some (.skip S1) => some (.drw (D.next o os pi (.tup []) S1.nx (oldIds E S1 ids ++ newIds S1 E.nx (S1.nx - E.nx)) sees) k)
  | _ => none
def orBad (n : Nat) : Option St → St
  | some s => s
  | none => .bad n
def dop3 (P : Program) (D : DSt) (o : Oper) (os : List Oper) (pi : Nat) (k : Kont) (nx : Nat) (ids : List Nat) (m : PT) : Bool → St
  | true => orBad 5 (dres D o os pi k ⟨nx, D.S.lim, m⟩ ids (some ⟨nx, D.S.lim, m⟩) (faop P D.F.eval ⟨nx, D.S.lim, m⟩ o.op))
  | false => .bad 4
def dop2b (P : Program) (D : DSt) (o : Oper) (os : List Oper) (pi : Nat) (k : Kont) (nx : Nat) (ids : List Nat) (m : PT) : Option St → St
  | some s => s
  | none => dop3 P D o os pi k nx (aboveL D.S.lim ids) m (allUnseen pi D.es nx (aboveL D.S.lim ids))
def dop2 (P : Program) (D : DSt) (o : Oper) (os : List Oper) (pi : Nat) (k : Kont) (nx : Nat) (ids : List Nat) (m : PT) : St :=
  dop2b P D o os pi k nx ids m (dres D o os pi k ⟨nx, nx, m⟩ [] (some ⟨nx, nx, m⟩) (faop P D.F.eval ⟨nx, nx, m⟩ o.op))
def dop1 (P : Program) (D : DSt) (o : Oper) (os : List Oper) (pi : Nat) (k : Kont) (nx : Nat) (ids : List Nat) : St :=
  dop2 P D o os pi k nx ids (seen D.S pi D.chs ids .nil)
def dop0 (P : Program) (D : DSt) (o : Oper) (os : List Oper) (pi : Nat) (k : Kont) : Option St → St
  | some s => s
  | none => dop1 P D o os pi k D.S.nx (opIds D.F (needs o.op))
def dopW (P : Program) (D : DSt) (o : Oper) (os : List Oper) (pi : Nat) (k : Kont) : Bool → St
  | true => .bad 1
  | false => dop0 P D o os pi k (dres D o os pi k ⟨D.S.nx, D.S.nx, .nil⟩ [] none (faop P D.F.eval ⟨D.S.nx, D.S.nx, .nil⟩ o.op))
/- An operation of a drawn region that is no call: with no object, with objects to read, with objects to write. -/
def dop (P : Program) (D : DSt) (o : Oper) (os : List Oper) (pi : Nat) (k : Kont) : Option Bool → St
  | some false => .drw (D.next o os pi (.tup []) D.S.nx [] none) k
  | some true => dopW P D o os pi k (specialOp o.op)
  | none => .bad 6

def callE (T : FT) (F : AFrame) (c : Call) (P : Program) : Option (Nat × Ent × List AV) :=
  match evalL F.eval c.args.toList with
  | some args => match c.callee with
    | .value f => match F.eval f with
      | some (.fn (.func g) first cap) => match FT.look T g with
        | some e => some (g, e, first ++ args ++ cap)
        | none => none
      | _ => none
    | .invoke r name => match F.eval r with
      | some (.ifc t v) => match methAV P t name with
        | some g => match FT.look T g with
          | some e => some (g, e, v :: args)
          | none => none
        | none => none
      | _ => none
    | _ => none
  | none => none
def isCall : Op → Bool
  | .call c => match c.callee with
    | .builtin _ => false
    | _ => true
  | _ => false

def enterE (f : Nat) (e : Ent) (args : List AV) (kind : CallKind) (cm : AMode) : AFrame := AFrame.enter f e.fn.ntmps e.mask e.body args kind cm

/- A call in a drawn region comes back. -/
def DSt.wideN (D : DSt) (o : Oper) (os : List Oper) (E : Sto) (pi : Nat) (hid : List Nat) (v : AV) (S : Sto) : DSt :=
  match D, S with
  | ⟨fn, F, ⟨nx0, lim, m0⟩, ops, _, i, pms, wm, sm, chs, es⟩, ⟨nx, _, m⟩ =>
    ⟨fn, fput F o.dst v, ⟨nx, lim, rehide ⟨nx0, lim, m0⟩ m hid⟩, ops, os, Nat.succ i, (i, pi) :: pms, wm, sm, (i, .wide lim nx) :: chs, (i, E) :: es⟩
def DSt.over (D : DSt) (o : Oper) (os : List Oper) (E : Sto) (pi : Nat) (hid : DM) (v : AV) (S : Sto) : DSt :=
  match hid with
  | .quiet => D.next o os pi v S.nx (gather S E.nx gfuel [v] []) (some E)
  | .sep ids => D.next o os pi v S.nx (oldIds E S ids ++ gather S E.nx gfuel (v :: kids S ids) []) (some E)
  | .wide hid => D.wideN o os E pi hid v S

def wideOf (T : FT) (f id : Nat) : Nat :=
  match FT.look T f with
  | some e => lkN e.wide id
  | none => 0
/- A call of a function comes back. -/
def back (r : Res) (cm : AMode) (S : Sto) : Kont → St
  | .nil => .done r S
  | .call fn F o all rest k next => .run fn (fback F o all rest k r) S next
  | .dfr fn F ds next => .run fn { F with defers := ds, mode := amodeAfter r cm } S next
  | .loop fn F d l k next => .run fn (F.backF d l k r) S next
  | .round fn F o all rest k _ next => match r with
    | .pan _ => .run fn (fback F o all rest k r) S next
    | .ret _ => .bad 26
  | .drw D o os E pi hid none next => match r with
    | .ret v => .drw (D.over o os E pi hid v S) next
    | .pan _ => .bad 9
  | .drw _ _ _ _ _ _ (some _) _ => .bad 39

def sepOf (T : FT) (f id : Nat) : Nat :=
  match FT.look T f with
  | some e => lkN e.sep id
  | none => 0
def enterX (g : Nat) (e : Ent) (args : List AV) (S : Sto) (k : Kont) : St :=
  match e.ext with
  | none => .run e.fn (enterE g e args .normal .run) S k
  | some x => match x args S with
    | some (v, S') => back (.ret v) .run S' k
    | none => .run e.fn (enterE g e args .normal .run) S k

/- A round in a drawn region. -/
def dyld (T : FT) (P : Program) (D : DSt) (o : Oper) (os : List Oper) (pi : Nat) (k : Kont) : St :=
  match hidden pi D.chs, allIn pi D.es with
  | some hid, true =>
    let E : Sto := ⟨D.S.nx, D.S.lim, hide D.S.m hid⟩
    match faop P D.F.eval E o.op with
    | some (.yld id args) => match E.get id with
      | some (.lp _ _ f n mask env params assign body) => match FT.look T f, Nat.beq args.length params.length with
        | some e, true => .run e.fn (roundF id f n mask env params assign body args) E (.drw D o os E pi (.wide hid) (some id) k)
        | _, _ => .bad 40
      | _ => .bad 41
    | _ => .bad 7
  | _, _ => .bad 42

def dcall3 (D : DSt) (o : Oper) (os : List Oper) (pi : Nat) (k : Kont) (g : Nat) (e : Ent) (args : List AV) (c : Chg) (ids : List Nat) : Bool → St
  | true => enterX g e args ⟨D.S.nx, D.S.lim, putC .nil c⟩ (.drw D o os ⟨D.S.nx, D.S.lim, putC .nil c⟩ pi (.sep ids) none k)
  | false => .bad 45
def dcall2 (D : DSt) (o : Oper) (os : List Oper) (pi : Nat) (k : Kont) (g : Nat) (e : Ent) (args : List AV) (hid : List Nat) : Bool → St
  | true => let c := clearC pi D.chs (gather D.S 0 gfuel args [])
    dcall3 D o os pi k g e args c (above D.S.lim c) (allUnseen pi D.es D.S.nx (above D.S.lim c))
  | false => enterX g e args ⟨D.S.nx, D.S.nx, hide D.S.m hid⟩ (.drw D o os ⟨D.S.nx, D.S.nx, hide D.S.m hid⟩ pi .quiet none k)
def dcallW (D : DSt) (o : Oper) (os : List Oper) (pi : Nat) (k : Kont) (g : Nat) (e : Ent) (args : List AV) (hid : List Nat) : Bool → St
  | true => enterX g e args ⟨D.S.nx, D.S.lim, hide D.S.m hid⟩ (.drw D o os ⟨D.S.nx, D.S.lim, hide D.S.m hid⟩ pi (.wide hid) none k)
  | false => .bad 22
def dcall1 (D : DSt) (o : Oper) (os : List Oper) (pi : Nat) (k : Kont) (g : Nat) (e : Ent) (args : List AV) : Option (List Nat) → St
  | some hid => match tb D.wm D.i with
    | true => dcallW D o os pi k g e args hid (allIn pi D.es)
    | false => dcall2 D o os pi k g e args hid (tb D.sm D.i)
  | none => .bad 23
def dcall0 (T : FT) (P : Program) (D : DSt) (o : Oper) (os : List Oper) (pi : Nat) (k : Kont) : Option (Nat × Ent × List AV) → St
  | some (g, e, args) => dcall1 D o os pi k g e args (hidden pi D.chs)
  | none => dyld T P D o os pi k
def dcall (T : FT) (P : Program) (D : DSt) (o : Oper) (os : List Oper) (pi : Nat) (k : Kont) (c : Call) : Option Bool → St
  | some false => .drw (D.next o os pi (.tup []) D.S.nx [] none) k
  | some true => dcall0 T P D o os pi k (callE T D.F c P)
  | none => .bad 8
def dany (T : FT) (P : Program) (D : DSt) (o : Oper) (os : List Oper) (pi : Nat) (k : Kont) : Option Call → St
  | some c => dcall T P D o os pi k c (agd D.F D.ops o)
  | none => dop P D o os pi k (agd D.F D.ops o)
def callOf : Op → Option Call
  | .call c => match c.callee with
    | .builtin _ => none
    | _ => some c
  | _ => none
def dstep (T : FT) (P : Program) (D : DSt) (k : Kont) : List Oper → St
  | [] => .run D.fn (flocs D.F D.F.todo) D.S k
  | o :: os => dany T P D o os (edgeMask D.pms o.after.toList) k (callOf o.op)

/- Loops over functions. -/
def eRF (T : FT) (fn : Func) (F : AFrame) (S : Sto) (k : Kont) (params : Array Tmp) (assign body : Code) (td : List AItem) : Option Nat → Option AV → St
  | none, some (.fn (.func g) first cap) => match FT.look T g, Nat.ble (S.nx + 2) 8192, Nat.ble S.lim S.nx with
    | some e, true, true => .run e.fn (enterE g e (first ++ [.yld (S.nx + 1)] ++ cap) .normal .run) (F.loopS S params assign body) (.loop fn F S.nx (S.nx + 1) td k)
    | _, _, _ => .bad 30
  | _, _ => .bad 31
def eEnd (fn : Func) (F : AFrame) (S : Sto) (k : Kont) (id : Nat) (td : List AItem) : Option AObj → St
  | some (.lp st pend f n mask env params assign body) => match st == .busy, Nat.ble S.lim id with
    | false, true => .run fn (flocs F (jumpTo pend td)) (S.set id (.lp .exhausted pend f n mask env params assign body)) k
    | _, _ => .bad 32
  | _ => .bad 33
def eBeg (fn : Func) (F : AFrame) (S : Sto) (k : Kont) (id : Nat) (td : List AItem) : Option AObj → St
  | some (.lp .ready pend f n mask env params assign body) => match Nat.ble S.lim id with
    | true => .run fn (ftodo F td) (S.set id (.lp .busy pend f n mask env params assign body)) k
    | false => .bad 34
  | _ => .bad 35
def eBack (S : Sto) (k : Kont) (v : AV) : St :=
  match k with
  | .round fn0 F0 o all rest td _ next => .run fn0 (fback F0 o all rest td (.ret v)) S next
  | .drw D o os E pi hid (some _) next => .drw (D.over o os E pi hid v S) next
  | _ => .bad 38
def eOut (S : Sto) (k : Kont) (id f n mask : Nat) (env : List (Nat × AV)) (params : List Tmp) (assign body : Code) : List AItem → Option Code → St
  | [], _ => eBack (S.set id (.lp .ready none f n mask env params assign body)) k (.sc (.bool true))
  | _, some c => eBack (S.set id (.lp .done (some c) f n mask env params assign body)) k (.sc (.bool false))
  | _, none => .bad 13
def eRnd (F : AFrame) (S : Sto) (k : Kont) (id : Nat) : List ADef → Option AObj → Bool → St
  | [], some (.lp _ _ f n mask env params assign body), true => eOut S k id f n mask env params assign body F.todo (outOf F.todo)
  | _, _, _ => .bad 37
def rndOf : Kont → Option Nat
  | .round _ _ _ _ _ _ id _ => some id
  | .drw _ _ _ _ _ _ (some id) _ => some id
  | _ => none
def eRnd0 (F : AFrame) (S : Sto) (k : Kont) : Option Nat → St
  | some id => eRnd F S k id F.defers (S.get id) (Nat.ble S.lim id)
  | none => .bad 38
def eBeg0 (fn : Func) (F : AFrame) (S : Sto) (k : Kont) (td : List AItem) : Option Nat → St
  | some id => eBeg fn F S k id td (S.get id)
  | none => .bad 36
def eDrw2 (T : FT) (fn : Func) (F : AFrame) (S : Sto) (k : Kont) (id : Nat) (all : Array Oper) (td : List AItem) : Bool → Bool → St
  | true, true => .drw { fn := fn, F := flocs F td, S := S, ops := all, os := all.toList, i := 0, pms := [], wm := wideOf T F.fn id, sm := sepOf T F.fn id, chs := [], es := [] } k
  | _, _ => .bad 46
def eDrw (T : FT) (fn : Func) (F : AFrame) (S : Sto) (k : Kont) (id : Nat) (all : Array Oper) (td : List AItem) : St :=
  eDrw2 T fn F S k id all td (regOk all) (Nat.ble S.lim S.nx)
def eloop (T : FT) (fn : Func) (F : AFrame) (S : Sto) (k : Kont) : List AItem → St
  | .code (.rangeFunc f params assign body) :: td => eRF T fn F S k params assign body td F.round (F.eval f)
  | .code (.region id all true) :: td => eDrw T fn F S k id all td
  | .endRF id :: td => eEnd fn F S k id td (S.get id)
  | .beg :: td => eBeg0 fn F S k td F.round
  | _ => eRnd0 F S k (rndOf k)

def eYld (fn : Func) (F : AFrame) (S : Sto) (k : Kont) (o : Oper) (all : Array Oper) (rest : List Nat) (td : List AItem) (id f n mask : Nat) (env : List (Nat × AV)) (params : List Tmp) (assign body : Code) (args : List AV) : Option Ent → Bool → St
  | some e, true => .run e.fn (roundF id f n mask env params assign body args) S (.round fn F o all rest td id k)
  | _, _ => .bad 28
def eYld0 (T : FT) (fn : Func) (F : AFrame) (S : Sto) (k : Kont) (o : Oper) (all : Array Oper) (rest : List Nat) (td : List AItem) (id : Nat) (args : List AV) : Option AObj → St
  | some (.lp _ _ f n mask env params assign body) => eYld fn F S k o all rest td id f n mask env params assign body args (FT.look T f) (Nat.beq args.length params.length)
  | _ => .bad 29
/- All that may come next in a map. -/
def flat : Kont → Bool
  | .nil => true
  | .call _ _ _ _ _ _ n => flat n
  | .dfr _ _ _ n => flat n
  | .loop _ _ _ _ _ n => flat n
  | .round _ _ _ _ _ _ _ n => flat n
  | .drw .. => false
def forkC (F : AFrame) (S : Sto) : Op → Option (List (AV × Sto))
  | .next it false => match F.eval it with
    | some a => nextC S a
    | none => none
  | _ => none
def forkF (F : AFrame) (o : Oper) (all : Array Oper) (rest : List Nat) (td : List AItem) : List (AV × Sto) → List (AFrame × Sto)
  | [] => []
  | (v, S) :: r => (fafter F o v all rest td, S) :: forkF F o all rest td r
def efork2 (fn : Func) (F : AFrame) (k : Kont) (o : Oper) (all : Array Oper) (rest : List Nat) (td : List AItem) (l : List (AV × Sto)) : Bool → St
  | true => .fork fn k (forkF F o all rest td l)
  | false => .bad 48
def efork (fn : Func) (F : AFrame) (k : Kont) (o : Oper) (all : Array Oper) (rest : List Nat) (td : List AItem) : Option (List (AV × Sto)) → St
  | some [(v, S)] => .run fn (fafter F o v all rest td) S k
  | some l => efork2 fn F k o all rest td l (flat k)
  | none => .bad 18
def eres (T : FT) (fn : Func) (F : AFrame) (S : Sto) (k : Kont) (o : Oper) (all : Array Oper) (rest : List Nat) (td : List AItem) : Option ARes → St
  | some (.val v S') => .run fn (fafter F o v all rest td) S' k
  | some (.skip S') => .run fn (fafter F o (.tup []) all rest td) S' k
  | some (.pan v) => .run fn (fmode F (.panicking [(v, false)])) S k
  | some (.yld id args) => eYld0 T fn F S k o all rest td id args (S.get id)
  | none => efork fn F k o all rest td (forkC F S o.op)
  | _ => .bad 18
def ercv (fn : Func) (F : AFrame) (S : Sto) (k : Kont) (o : Oper) (all : Array Oper) (rest : List Nat) (td : List AItem) : Option (AV × AMode) → St
  | some (v, cm) => .run fn { fafter F o v all rest td with cm := cm } S k
  | none => .run fn (fafter F o (.sc .nilIface) all rest td) S k
def espec (fn : Func) (F : AFrame) (S : Sto) (k : Kont) (o : Oper) (all : Array Oper) (rest : List Nat) (td : List AItem) : Option Nat → Option ARes → St
  | none, some (.dfr f cap args) => .run fn { fafter F o (.tup []) all rest td with defers := .call f cap args :: F.defers } S k
  | none, some .rcv => match F.kind with
    | .deferred => ercv fn F S k o all rest td (arecover F.cm)
    | _ => .bad 20
  | _, _ => .bad 21
def eop (T : FT) (P : Program) (fn : Func) (F : AFrame) (S : Sto) (k : Kont) (o : Oper) (all : Array Oper) (rest : List Nat) (td : List AItem) : Bool → St
  | false => eres T fn F S k o all rest td (faop P F.eval S o.op)
  | true => espec fn F S k o all rest td F.round (faop P F.eval S o.op)
def ext2 (fn : Func) (F : AFrame) (S : Sto) (k : Kont) (o : Oper) (all : Array Oper) (rest : List Nat) (td : List AItem) (g : Nat) (e : Ent) (args : List AV) : Option (AV × Sto) → St
  | some (v, S') => .run fn (fafter F o v all rest td) S' k
  | none => .run e.fn (enterE g e args .normal .run) S (.call fn F o all rest td k)
def ecall2 (fn : Func) (F : AFrame) (S : Sto) (k : Kont) (o : Oper) (all : Array Oper) (rest : List Nat) (td : List AItem) (g : Nat) (e : Ent) (args : List AV) : Option (List AV → Sto → Option (AV × Sto)) → St
  | none => .run e.fn (enterE g e args .normal .run) S (.call fn F o all rest td k)
  | some x => ext2 fn F S k o all rest td g e args (x args S)
def ecall (T : FT) (P : Program) (fn : Func) (F : AFrame) (S : Sto) (k : Kont) (o : Oper) (all : Array Oper) (rest : List Nat) (td : List AItem) : Option (Nat × Ent × List AV) → St
  | some (g, e, args) => ecall2 fn F S k o all rest td g e args e.ext
  | none => eop T P fn F S k o all rest td false
def eany (T : FT) (P : Program) (fn : Func) (F : AFrame) (S : Sto) (k : Kont) (o : Oper) (all : Array Oper) (rest : List Nat) (td : List AItem) : Option Call → St
  | some c => ecall T P fn F S k o all rest td (callE T F c P)
  | none => eop T P fn F S k o all rest td (specialOp o.op)
def eguard (T : FT) (P : Program) (fn : Func) (F : AFrame) (S : Sto) (k : Kont) (o : Oper) (all : Array Oper) (rest : List Nat) (td : List AItem) : Option Bool → St
  | some true => eany T P fn F S k o all rest td (callOf o.op)
  | some false => .run fn (fafter F o (.tup []) all rest td) S k
  | none => .bad 11
def eops (T : FT) (P : Program) (fn : Func) (F : AFrame) (S : Sto) (k : Kont) (all : Array Oper) (rest : List Nat) (td : List AItem) : Option Oper → St
  | some o => eguard T P fn F S k o all rest td (agd F all o)
  | none => .bad 12
def ectl (T : FT) (fn : Func) (F : AFrame) (S : Sto) (k : Kont) : Option AFrame → St
  | some F' => .run fn (fgoN 10 F') S k
  | none => eloop T fn F S k F.todo
def erun (T : FT) (P : Program) (fn : Func) (F : AFrame) (S : Sto) (k : Kont) : List AItem → St
  | .ops all (i :: rest) :: td => eops T P fn F S k all rest td (opAt all i)
  | td => ectl T fn F S k (fctl F td)
def eret (F : AFrame) (S : Sto) (k : Kont) : Option AV → St
  | some v => back (.ret v) F.cm S k
  | none => .bad 14
def ecoll (fn : Func) (F : AFrame) (S : Sto) (k : Kont) (id : Nat) (ds : List ADef) : Option AObj → Bool → St
  | some (.df true), true => .run fn { F with defers := ds } (S.set id (.df false)) k
  | _, _ => .bad 27
def edfr (fn : Func) (F : AFrame) (S : Sto) (k : Kont) (f : Nat) (cap args : List AV) (ds : List ADef) : Option Ent → St
  | some e => .run e.fn (enterE f e (args ++ cap) .deferred F.mode) S (.dfr fn F ds k)
  | none => .bad 16
def efin (P : Program) (fn : Func) (F : AFrame) (S : Sto) (k : Kont) : AMode → St
  | .returning => eret F S k (resAV P fn F S)
  | .panicking l => back (.pan l) F.cm S k
  | .run => .bad 15
def eunw (T : FT) (P : Program) (fn : Func) (F : AFrame) (S : Sto) (k : Kont) : List ADef → St
  | [] => efin P fn F S k F.mode
  | .call f cap args :: ds => edfr fn F S k f cap args ds (FT.look T f)
  | .coll id :: ds => ecoll fn F S k id ds (S.get id) (Nat.ble S.lim id)
def est (T : FT) (P : Program) (fn : Func) (F : AFrame) (S : Sto) (k : Kont) : AMode → St
  | .run => erun T P fn F S k F.todo
  | _ => eunw T P fn F S k F.defers

def St.step (T : FT) (P : Program) : St → St
  | .run fn F S k => est T P fn F S k F.mode
  | .drw D k => dstep T P D k D.os
  | s => s
/- 2^d steps; a fork stands. -/
def St.rep (T : FT) (P : Program) : Nat → St → St
  | 0, s => s.step T P
  | d + 1, s => match St.rep T P d s with
    | .run fn F S k => St.rep T P d (.run fn F S k)
    | .drw D k => St.rep T P d (.drw D k)
    | s => s

def forkS (fn : Func) (k : Kont) : List (AFrame × Sto) → List St
  | [] => []
  | (F, S) :: r => .run fn F S k :: forkS fn k r
/- All ends of all branches. -/
def St.outs (T : FT) (P : Program) (d : Nat) : Nat → List St → Option (List (AV × Sto))
  | 0, _ => none
  | _ + 1, [] => some []
  | n + 1, s :: r => match St.rep T P d s with
    | .done (.ret v) S => match St.outs T P d n r with
      | some l => some ((v, S) :: l)
      | none => none
    | .fork fn k l => St.outs T P d n (forkS fn k l ++ r)
    | _ => none
def St.start (T : FT) (f : Nat) (args : List AV) (S : Sto) : St :=
  match FT.look T f with
  | some e => .run e.fn (enterE f e args .normal .run) S .nil
  | none => .bad 0

end
end Go.Eng

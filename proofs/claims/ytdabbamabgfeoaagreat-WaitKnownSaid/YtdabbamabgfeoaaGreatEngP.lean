/- Operations by kinds; no conditions. -/
import Derived.Test.YtdabbamabgfeoaaGreatEngO
namespace Go.Eng
noncomputable section
/- An operation, each kind by itself. -/
set_option linter.unusedVariables false in
def aop_move (P : Program) (ρ : Operand → Option AV) (S : Sto) (x : Operand) : Option ARes :=
  vOf S (ρ x)
set_option linter.unusedVariables false in
def aop_assign (P : Program) (ρ : Operand → Option AV) (S : Sto) (x : Operand) : Option ARes :=
  vOf S (ρ x)
set_option linter.unusedVariables false in
def aop_pick (P : Program) (ρ : Operand → Option AV) (S : Sto) (c : Operand) (a : Operand) (b : Operand) : Option ARes :=
  match ρ c with
  | some (.sc (.bool true)) => vOf S (ρ a)
  | some (.sc (.bool false)) => vOf S (ρ b)
  | _ => none
set_option linter.unusedVariables false in
def aop_alloc (P : Program) (ρ : Operand → Option AV) (S : Sto) (t : TypeId) : Option ARes :=
  match zeroAV P t with
  | some z => pOf (boxAV S z)
  | none => none
set_option linter.unusedVariables false in
def aop_box (P : Program) (ρ : Operand → Option AV) (S : Sto) (x : Operand) : Option ARes :=
  match ρ x with
  | some v => pOf (boxAV S v)
  | none => none
set_option linter.unusedVariables false in
def aop_build (P : Program) (ρ : Operand → Option AV) (S : Sto) (t : TypeId) (ps : Array (Nat × Operand)) : Option ARes :=
  match evalP ρ ps.toList with
  | some l => vOf S (buildAV P t l)
  | none => none
set_option linter.unusedVariables false in
def aop_buildSlice (P : Program) (ρ : Operand → Option AV) (S : Sto) (t : TypeId) (n : Nat) (ps : Array (Nat × Operand)) : Option ARes :=
  match evalP ρ ps.toList with
  | some l => pOf (buildSliceAV P S t n l)
  | none => none
set_option linter.unusedVariables false in
def aop_load (P : Program) (ρ : Operand → Option AV) (S : Sto) (t : TypeId) (a : Operand) : Option ARes :=
  match ρ a with
  | some p => match ptrCells S p with
    | some cs => vOf S (loadAV P t cs)
    | none => none
  | none => none
set_option linter.unusedVariables false in
def aop_store (P : Program) (ρ : Operand → Option AV) (S : Sto) (t : TypeId) (a : Operand) (x : Operand) : Option ARes :=
  match ρ a, ρ x with
  | some p, some v => sOf (storeAV P S t p v)
  | _, _ => none
set_option linter.unusedVariables false in
def aop_nilCheck (P : Program) (ρ : Operand → Option AV) (S : Sto) (x : Operand) : Option ARes :=
  match ρ x with
  | some (.ptr id i j) => some (.val (.ptr id i j) S)
  | some (.lptr cs) => some (.val (.lptr cs) S)
  | some (.fn (.func f) a b) => some (.val (.fn (.func f) a b) S)
  | some (.yld id) => some (.val (.yld id) S)
  | some (.ifc t v) => some (.val (.ifc t v) S)
  | _ => none
set_option linter.unusedVariables false in
def aop_binOp (P : Program) (ρ : Operand → Option AV) (S : Sto) (op : BinOp) (t : TypeId) (x : Operand) (y : Operand) : Option ARes :=
  match ρ x, ρ y with
  | some (.sc .nilIface), some (.sc .nilIface) => match P.underlying t with
    | some (.interface _) => match isConstO x || isConstO y with
      | true => vOf S (eqRes op true)
      | false => none
    | _ => none
  | some a, some b => vOf S (binAV P op t a b)
  | _, _ => none
set_option linter.unusedVariables false in
def aop_unOp (P : Program) (ρ : Operand → Option AV) (S : Sto) (op : UnOp) (x : Operand) : Option ARes :=
  match ρ x with
  | some a => vOf S (unAV op a)
  | none => none
set_option linter.unusedVariables false in
def aop_convert (P : Program) (ρ : Operand → Option AV) (S : Sto) (s : TypeId) (d : TypeId) (x : Operand) : Option ARes :=
  match ρ x with
  | some a => vOf S (convAV P s d a)
  | none => none
set_option linter.unusedVariables false in
def aop_makeInterface (P : Program) (ρ : Operand → Option AV) (S : Sto) (t : TypeId) (x : Operand) : Option ARes :=
  match P.underlying t, ρ x with
  | some (.interface _), _ => none
  | some _, some v => some (.val (.ifc t v) S)
  | _, _ => none
set_option linter.unusedVariables false in
def aop_makeFunc (P : Program) (ρ : Operand → Option AV) (S : Sto) (f : Fn) (a : Array Operand) (b : Array Operand) : Option ARes :=
  match evalL ρ a.toList, evalL ρ b.toList with
  | some x, some y => some (.val (.fn f x y) S)
  | _, _ => none
set_option linter.unusedVariables false in
def aop_makeMap (P : Program) (ρ : Operand → Option AV) (S : Sto)  : Option ARes :=
  pOf (makeMapAV S)
set_option linter.unusedVariables false in
def aop_makeSlice (P : Program) (ρ : Operand → Option AV) (S : Sto) (t : TypeId) (l : Operand) (c : Operand) : Option ARes :=
  match ρ l, ρ c with
  | some x, some y => pOf (makeSliceAV P S t x y)
  | _, _ => none
set_option linter.unusedVariables false in
def aop_slice (P : Program) (ρ : Operand → Option AV) (S : Sto) (t : TypeId) (x : Operand) (lo : Option Operand) (hi : Option Operand) : Option ARes :=
  match ρ x, (match lo with
    | none => some none
    | some a => match ρ a with
      | some v => some (some v)
      | none => none), (match hi with
    | none => some none
    | some a => match ρ a with
      | some v => some (some v)
      | none => none) with
  | some a, some l, some h => vOf S (sliceAV P S t a.unclip l h)
  | _, _, _ => none
set_option linter.unusedVariables false in
def aop_clip (P : Program) (ρ : Operand → Option AV) (S : Sto) (t : TypeId) (x hi mx : Operand) : Option ARes :=
  match ρ x, ρ hi, ρ mx with
  | some a, some h, some m => vOf S (clipAV P t a h m)
  | _, _, _ => none
set_option linter.unusedVariables false in
def aop_fieldAddr (P : Program) (ρ : Operand → Option AV) (S : Sto) (s : TypeId) (x : Operand) (f : Nat) : Option ARes :=
  match ρ x with
  | some a => vOf S (fieldAddrAV P s a f)
  | none => none
set_option linter.unusedVariables false in
def aop_field (P : Program) (ρ : Operand → Option AV) (S : Sto) (t : TypeId) (x : Operand) (f : Nat) : Option ARes :=
  match ρ x with
  | some a => vOf S (fieldAV P t a f)
  | none => none
set_option linter.unusedVariables false in
def aop_indexAddr (P : Program) (ρ : Operand → Option AV) (S : Sto) (t : TypeId) (x : Operand) (ix : Operand) : Option ARes :=
  match ρ x, ρ ix with
  | some a, some b => vOf S (indexAddrAV P S t a.unclip b)
  | _, _ => none
set_option linter.unusedVariables false in
def aop_index (P : Program) (ρ : Operand → Option AV) (S : Sto) (t : TypeId) (x : Operand) (ix : Operand) : Option ARes :=
  match ρ x, ρ ix with
  | some a, some b => vOf S (indexAV P t a b)
  | _, _ => none
set_option linter.unusedVariables false in
def aop_lookup (P : Program) (ρ : Operand → Option AV) (S : Sto) (t : TypeId) (x : Operand) (ix : Operand) (ok : Bool) : Option ARes :=
  match ρ x, ρ ix with
  | some a, some b => vOf S (lookupAV P S t a b ok)
  | _, _ => none
set_option linter.unusedVariables false in
def aop_mapUpdate (P : Program) (ρ : Operand → Option AV) (S : Sto) (t : TypeId) (m : Operand) (k : Operand) (x : Operand) : Option ARes :=
  match ρ m, ρ k, ρ x with
  | some a, some b, some c => sOf (updateAV P S t a b c)
  | _, _, _ => none
set_option linter.unusedVariables false in
def aop_insert (P : Program) (ρ : Operand → Option AV) (S : Sto) (t : TypeId) (m : Operand) (k : Operand) (x : Operand) : Option ARes :=
  match ρ m, ρ k, ρ x with
  | some a, some b, some c => sOf (updateAV P S t a b c)
  | _, _, _ => none
set_option linter.unusedVariables false in
def aop_range (P : Program) (ρ : Operand → Option AV) (S : Sto) (t : TypeId) (x : Operand) : Option ARes :=
  match ρ x with
  | some a => pOf (rangeAV P S t a)
  | none => none
set_option linter.unusedVariables false in
def aop_next (P : Program) (ρ : Operand → Option AV) (S : Sto) (it : Operand) (s : Bool) : Option ARes :=
  match ρ it with
  | some a => pOf (nextAV S a s)
  | none => none
set_option linter.unusedVariables false in
def aop_entry (P : Program) (ρ : Operand → Option AV) (S : Sto) (it : Operand) : Option ARes :=
  match ρ it with
  | some a => vOf S (entryAV S a)
  | none => none
set_option linter.unusedVariables false in
def aop_typeAssert (P : Program) (ρ : Operand → Option AV) (S : Sto) (x : Operand) (t : TypeId) (ok : Bool) : Option ARes :=
  match ρ x with
  | some a => vOf S (assertAV P t a ok)
  | none => none
set_option linter.unusedVariables false in
def aop_extract (P : Program) (ρ : Operand → Option AV) (S : Sto) (t : Operand) (ix : Nat) : Option ARes :=
  match ρ t with
  | some (.tup vs) => vOf S (nth vs ix)
  | _ => none
set_option linter.unusedVariables false in
def aop_call (P : Program) (ρ : Operand → Option AV) (S : Sto) (c : Call) : Option ARes :=
  callAV P ρ S c
set_option linter.unusedVariables false in
def aop_defer (P : Program) (ρ : Operand → Option AV) (S : Sto) (c : Call) : Option ARes :=
  match evalL ρ c.args.toList with
  | some args => match c.callee with
    | .value f => match ρ f with
      | some (.fn (.func g) first cap) => match bodyOk P g with
        | true => some (.dfr g cap (first ++ args))
        | false => none
      | _ => none
    | _ => none
  | none => none
set_option linter.unusedVariables false in
def aop_panic (P : Program) (ρ : Operand → Option AV) (S : Sto) (x : Operand) : Option ARes :=
  match ρ x with
  | some (.ifc t v) => some (.pan (.ifc t v))
  | _ => none
def faop (P : Program) (ρ : Operand → Option AV) (S : Sto) (o : Op) : Option ARes :=
  match o with
  | .move x => aop_move P ρ S x
  | .assign x => aop_assign P ρ S x
  | .pick c a b => aop_pick P ρ S c a b
  | .alloc t => aop_alloc P ρ S t
  | .box _ x => aop_box P ρ S x
  | .build t ps => aop_build P ρ S t ps
  | .buildSlice t n ps => aop_buildSlice P ρ S t n ps
  | .load t a => aop_load P ρ S t a
  | .store t a x => aop_store P ρ S t a x
  | .nilCheck x => aop_nilCheck P ρ S x
  | .binOp op t x y _ => aop_binOp P ρ S op t x y
  | .unOp op _ x => aop_unOp P ρ S op x
  | .convert s d x => aop_convert P ρ S s d x
  | .makeInterface t x => aop_makeInterface P ρ S t x
  | .makeFunc f a b => aop_makeFunc P ρ S f a b
  | .makeMap _ none => aop_makeMap P ρ S
  | .makeSlice t l c => aop_makeSlice P ρ S t l c
  | .slice t x lo hi none => aop_slice P ρ S t x lo hi
  | .slice t x none (some hi) (some mx) => aop_clip P ρ S t x hi mx
  | .fieldAddr s x f => aop_fieldAddr P ρ S s x f
  | .field t x f => aop_field P ρ S t x f
  | .indexAddr t x ix => aop_indexAddr P ρ S t x ix
  | .index t x ix => aop_index P ρ S t x ix
  | .lookup t x ix ok => aop_lookup P ρ S t x ix ok
  | .mapUpdate t m k x => aop_mapUpdate P ρ S t m k x
  | .insert t m k x => aop_insert P ρ S t m k x
  | .range t x => aop_range P ρ S t x
  | .next it s => aop_next P ρ S it s
  | .entry it => aop_entry P ρ S it
  | .typeAssert x _ t ok => aop_typeAssert P ρ S x t ok
  | .extract t ix => aop_extract P ρ S t ix
  | .call c => aop_call P ρ S c
  | .defer c => aop_defer P ρ S c
  | .panic x => aop_panic P ρ S x
  | _ => none
theorem faop_eq (P : Program) (ρ : Operand → Option AV) (S : Sto) (o : Op) : faop P ρ S o = aop P ρ S o := by
  cases o with
  | makeMap t r => cases r <;> rfl
  | slice t x l h m => cases m <;> cases l <;> cases h <;> rfl
  | _ => rfl

end
end Go.Eng

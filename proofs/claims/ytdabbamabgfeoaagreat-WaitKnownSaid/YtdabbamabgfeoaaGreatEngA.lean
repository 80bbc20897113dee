/- Values, stores and worlds: how an abstract value stands for one of the model's, and an abstract store for a part of the heap; no conditions. -/
import Derived.Recover
namespace Go.Eng
noncomputable section

/- Values that are the same in every world. -/
def isSc : Value → Bool
  | .bool _ | .int _ _ | .string _ | .pointer none | .map none | .nilFunc | .nilIface => true
  | _ => false

/- An abstract value. clip: a slice without room behind its end. lit: a slice that is never written, with its elements; lptr: a pointer into memory that is never written, with the cells that can be read from there on;
   ptr: a pointer to element i, cell j of an object; sref: a slice of an object; nils: a slice without elements and without room; nilS: the nil slice. -/
inductive AV where
  | sc (v : Value)
  | agg (cs : List AV)
  | nils
  | nilS
  | lit (es : List AV)
  | lptr (cs : List AV)
  | ptr (id i j : Nat)
  | sref (id off len : Nat)
  | mapr (id : Nat)
  | fn (f : Fn) (first cap : List AV)
  | ifc (t : TypeId) (v : AV)
  | tup (vs : List AV)
  | yld (id : Nat)
  | clip (v : AV)
  | top
  deriving Inhabited

def AV.cells : AV → List AV
  | .agg cs => cs
  | v => [v]

/- Where an object lies: its block, the cell at which it begins, the cells of an element, the cells of the block. -/
structure Loc where
  blk : Nat
  base : Nat
  sz : Nat
  bz : Nat

/- What is known of a heap: blocks that are never written, and where objects lie. -/
structure Gh where
  ro : Nat → Option (Array Value)
  ph : Nat → Option Loc

structure Gh.le (a b : Gh) : Prop where
  ro : ∀ k c, a.ro k = some c → b.ro k = some c
  ph : ∀ k l, a.ph k = some l → b.ph k = some l

theorem Gh.le_refl (a : Gh) : Gh.le a a := ⟨fun _ _ h => h, fun _ _ h => h⟩
theorem Gh.le_trans {a b c : Gh} (h : Gh.le a b) (k : Gh.le b c) : Gh.le a c := ⟨fun i x e => k.ro i x (h.ro i x e), fun i x e => k.ph i x (h.ph i x e)⟩

inductive VR (g : Gh) : AV → Value → Prop
  | sc {v : Value} (h : isSc v = true) : VR g (.sc v) v
  | agg {cs : List AV} {xs : Array Value} (hl : cs.length = xs.size) (h : ∀ (k : Nat) (a : AV) (x : Value), cs[k]? = some a → xs[k]? = some x → VR g a x) : VR g (.agg cs) (.agg xs)
  | nils {a : Option Addr} : VR g .nils (.slice a 0 0)
  | nilS : VR g .nilS (.slice none 0 0)
  | lit {es : List AV} {b o sz cap : Nat} {c : Array Value} (hr : g.ro b = some c) (hs : ∀ e, e ∈ es → e.cells.length = sz) (hb : o + es.length * sz ≤ c.size) (hcap : es.length ≤ cap)
      (h : ∀ (i j : Nat) (e a : AV) (x : Value), es[i]? = some e → e.cells[j]? = some a → c[o + i * sz + j]? = some x → VR g a x) :
      VR g (.lit es) (.slice (some ⟨b, o, none⟩) es.length cap)
  | lit0 {a : Option Addr} {cap : Nat} : VR g (.lit []) (.slice a 0 cap)
  | lptr {cs : List AV} {b o : Nat} {c : Array Value} (hr : g.ro b = some c) (hb : o + cs.length ≤ c.size)
      (h : ∀ (j : Nat) (a : AV) (x : Value), cs[j]? = some a → c[o + j]? = some x → VR g a x) : VR g (.lptr cs) (.pointer (some ⟨b, o, none⟩))
  | ptr {id i j : Nat} {l : Loc} (hl : g.ph id = some l) : VR g (.ptr id i j) (.pointer (some ⟨l.blk, l.base + i * l.sz + j, none⟩))
  | sref {id off len cap : Nat} {l : Loc} (hl : g.ph id = some l) (hc : len ≤ cap) (hb : l.base + (off + cap) * l.sz ≤ l.bz) :
      VR g (.sref id off len) (.slice (some ⟨l.blk, l.base + off * l.sz, none⟩) len cap)
  | srefz {id off : Nat} {a : Addr} : VR g (.sref id off 0) (.slice (some a) 0 0)
  | mapr {id : Nat} {l : Loc} (hl : g.ph id = some l) : VR g (.mapr id) (.map (some l.blk))
  | fn {f : Fn} {first cap : List AV} {xs ys : Array Value} (hx : first.length = xs.size) (hy : cap.length = ys.size)
      (h : ∀ (k : Nat) (a : AV) (x : Value), first[k]? = some a → xs[k]? = some x → VR g a x)
      (h' : ∀ (k : Nat) (a : AV) (x : Value), cap[k]? = some a → ys[k]? = some x → VR g a x) : VR g (.fn f first cap) (.func f xs ys)
  | ifc {t : TypeId} {v : AV} {x : Value} (h : VR g v x) : VR g (.ifc t v) (.iface t x)
  | tup {vs : List AV} {xs : Array Value} (hl : vs.length = xs.size) (h : ∀ (k : Nat) (a : AV) (x : Value), vs[k]? = some a → xs[k]? = some x → VR g a x) : VR g (.tup vs) (.tuple xs)
  | yld {id : Nat} {l : Loc} (hl : g.ph id = some l) : VR g (.yld id) (.func (.yield l.blk) #[] #[])
  | clip {v : AV} {a : Option Addr} {n c : Nat} (h : VR g v (.slice a n c)) : VR g (.clip v) (.slice a n n)
  | top {x : Value} : VR g .top x

theorem VR.mono {g g' : Gh} (hg : Gh.le g g') {v : AV} {x : Value} (h : VR g v x) : VR g' v x := by
  induction h with
  | sc h => exact .sc h
  | agg hl _ ih => exact .agg hl ih
  | nils => exact .nils
  | nilS => exact .nilS
  | lit hr hs hb hcap _ ih => exact .lit (hg.ro _ _ hr) hs hb hcap ih
  | lit0 => exact .lit0
  | lptr hr hb _ ih => exact .lptr (hg.ro _ _ hr) hb ih
  | ptr hl => exact .ptr (hg.ph _ _ hl)
  | sref hl hc hb => exact .sref (hg.ph _ _ hl) hc hb
  | srefz => exact .srefz
  | mapr hl => exact .mapr (hg.ph _ _ hl)
  | fn hx hy _ _ ih ih' => exact .fn hx hy ih ih'
  | ifc _ ih => exact .ifc ih
  | tup hl _ ih => exact .tup hl ih
  | yld hl => exact .yld (hg.ph _ _ hl)
  | clip _ ih => exact .clip ih
  | top => exact .top

/- A slice without room is a slice. -/
def AV.unclip : AV → AV
  | .clip v => v
  | v => v
theorem VR.unclip {g : Gh} {v : AV} {x : Value} (h : VR g v x) : VR g v.unclip x := by
  cases h with
  | clip h =>
    show VR g _ _
    rename_i v a n c
    generalize hx : Value.slice a n c = x at h
    cases h with
    | sc h => subst hx; simp [isSc] at h
    | nils => cases hx; exact .nils
    | nilS => cases hx; exact .nilS
    | lit hr hs hb hcap hh => cases hx; exact .lit hr hs hb (Nat.le_refl _) hh
    | lit0 => cases hx; exact .lit0
    | sref hl hc hb => cases hx; exact .sref hl (Nat.le_refl _) (Nat.le_trans (Nat.add_le_add_left (Nat.mul_le_mul_right _ (by omega)) _) hb)
    | srefz => cases hx; exact .srefz
    | clip h => cases hx; exact .clip h
    | top => exact .top
    | _ => cases hx
  | _ => first | (constructor <;> assumption) | (rename_i h; exact h)

/- Lists of values. -/
def VRs (g : Gh) (l : List AV) (xs : Array Value) : Prop := l.length = xs.size ∧ ∀ (k : Nat) (a : AV) (x : Value), l[k]? = some a → xs[k]? = some x → VR g a x

theorem VRs.mono {g g' : Gh} (hg : Gh.le g g') {l : List AV} {xs : Array Value} (h : VRs g l xs) : VRs g' l xs := ⟨h.1, fun k a x e e' => (h.2 k a x e e').mono hg⟩
theorem VRs.get {g : Gh} {l : List AV} {xs : Array Value} (h : VRs g l xs) {k : Nat} {a : AV} (e : l[k]? = some a) : ∃ x, xs[k]? = some x ∧ VR g a x := by
  have hk : k < l.length := (List.getElem?_eq_some_iff.1 e).1
  have hk' : k < xs.size := h.1 ▸ hk
  have hx : xs[k]? = some xs[k] := Array.getElem?_eq_getElem hk'
  exact ⟨_, hx, h.2 k a _ e hx⟩
theorem VRs.nil (g : Gh) : VRs g [] #[] := ⟨rfl, fun k a x e => by simp at e⟩
theorem VRs.of_list {g : Gh} {l : List AV} {ys : List Value} (hl : l.length = ys.length) (h : ∀ (k : Nat) (a : AV) (x : Value), l[k]? = some a → ys[k]? = some x → VR g a x) : VRs g l ys.toArray :=
  ⟨by simpa using hl, fun k a x e e' => h k a x e (by simpa using e')⟩
theorem VRs.cons {g : Gh} {a : AV} {l : List AV} {x : Value} {xs : List Value} (h : VR g a x) (t : VRs g l xs.toArray) : VRs g (a :: l) (x :: xs).toArray := by
  refine ⟨by simpa using t.1, fun k b y e e' => ?_⟩
  cases k with
  | zero => simp at e e'; subst e; subst e'; exact h
  | succ k => exact t.2 k b y (by simpa using e) (by simpa using e')
theorem VRs.append {g : Gh} {l m : List AV} {xs ys : Array Value} (h : VRs g l xs) (h' : VRs g m ys) : VRs g (l ++ m) (xs ++ ys) := by
  refine ⟨by simp [h.1, h'.1], fun k a x e e' => ?_⟩
  by_cases hk : k < l.length
  · rw [List.getElem?_append_left hk] at e
    rw [Array.getElem?_append_left (h.1 ▸ hk)] at e'
    exact h.2 k a x e e'
  · rw [List.getElem?_append_right (by omega)] at e
    rw [Array.getElem?_append_right (by have := h.1; omega), ← h.1] at e'
    exact h'.2 _ a x e e'
theorem VRs.drop {g : Gh} {l : List AV} {xs : Array Value} (h : VRs g l xs) (n : Nat) : VRs g (l.drop n) (xs.extract n xs.size) := by
  refine ⟨by simp [h.1], fun k a x e e' => ?_⟩
  rw [List.getElem?_drop] at e
  rw [Array.getElem?_extract] at e'
  split at e'
  · exact h.2 _ a x e e'
  · simp at e'

/- Objects of a store. -/
inductive AObj where
  | arr (sz : Nat) (es : List AV)
  | mp (kvs : List (AV × AV))
  | lp (st : LoopState) (pending : Option Code) (fn : FuncId) (n mask : Nat) (env : List (Nat × AV)) (params : List Tmp) (assign body : Code)
  | df (open_ : Bool)
  | si (s : ByteArray) (pos : Nat)
  | mi (m since : Nat) (seen : List Nat)
  | mz
  deriving Inhabited

/- Finite maps over numbers below 2^13, the highest digit first. -/
inductive PT where
  | nil
  | node (o : Option AObj) (l r : PT)
  deriving Inhabited

noncomputable def PT.get (d : Nat) : PT → Nat → Option AObj :=
  Nat.rec (motive := fun _ => PT → Nat → Option AObj) (fun t _ => PT.rec (motive := fun _ => Option AObj) none (fun o _ _ _ _ => o) t)
    (fun d ih t i => PT.rec (motive := fun _ => Option AObj) none (fun _ l r _ _ => Bool.rec (motive := fun _ => Option AObj) (ih r i) (ih l i) (Nat.beq (Nat.land (Nat.shiftRight i d) 1) 0)) t) d
noncomputable def PT.set (d : Nat) : PT → Nat → Option AObj → PT :=
  Nat.rec (motive := fun _ => PT → Nat → Option AObj → PT) (fun _ _ v => .node v .nil .nil)
    (fun d ih t i v => PT.rec (motive := fun _ => PT) (Bool.rec (motive := fun _ => PT) (.node none .nil (ih .nil i v)) (.node none (ih .nil i v) .nil) (Nat.beq (Nat.land (Nat.shiftRight i d) 1) 0))
      (fun o l r _ _ => Bool.rec (motive := fun _ => PT) (.node o l (ih r i v)) (.node o (ih l i v) r) (Nat.beq (Nat.land (Nat.shiftRight i d) 1) 0)) t) d

theorem PT.get_zero (o : Option AObj) (l r : PT) (i : Nat) : PT.get 0 (.node o l r) i = o := rfl
theorem PT.get_succ (d : Nat) (o : Option AObj) (l r : PT) (i : Nat) : PT.get (d + 1) (.node o l r) i = match Nat.beq (Nat.land (Nat.shiftRight i d) 1) 0 with
    | true => PT.get d l i
    | false => PT.get d r i := by
  show _ = _
  cases h : Nat.beq (Nat.land (Nat.shiftRight i d) 1) 0
  · exact (show PT.get (d + 1) (.node o l r) i = Bool.rec (motive := fun _ => Option AObj) (PT.get d r i) (PT.get d l i) (Nat.beq (Nat.land (Nat.shiftRight i d) 1) 0) from by first | rfl | (simp only [PT.get, h])).trans (by rw [h])
  · exact (show PT.get (d + 1) (.node o l r) i = Bool.rec (motive := fun _ => Option AObj) (PT.get d r i) (PT.get d l i) (Nat.beq (Nat.land (Nat.shiftRight i d) 1) 0) from by first | rfl | (simp only [PT.get, h])).trans (by rw [h])
theorem PT.set_zero (t : PT) (i : Nat) (v : Option AObj) : PT.set 0 t i v = .node v .nil .nil := rfl
theorem PT.set_nil (d i : Nat) (v : Option AObj) : PT.set (d + 1) .nil i v = match Nat.beq (Nat.land (Nat.shiftRight i d) 1) 0 with
    | true => .node none (PT.set d .nil i v) .nil
    | false => .node none .nil (PT.set d .nil i v) := by
  cases h : Nat.beq (Nat.land (Nat.shiftRight i d) 1) 0
  · exact (show PT.set (d + 1) .nil i v = Bool.rec (motive := fun _ => PT) (.node none .nil (PT.set d .nil i v)) (.node none (PT.set d .nil i v) .nil) (Nat.beq (Nat.land (Nat.shiftRight i d) 1) 0) from by first | rfl | (simp only [PT.set, h])).trans (by rw [h])
  · exact (show PT.set (d + 1) .nil i v = Bool.rec (motive := fun _ => PT) (.node none .nil (PT.set d .nil i v)) (.node none (PT.set d .nil i v) .nil) (Nat.beq (Nat.land (Nat.shiftRight i d) 1) 0) from by first | rfl | (simp only [PT.set, h])).trans (by rw [h])
theorem PT.set_succ (d : Nat) (o : Option AObj) (l r : PT) (i : Nat) (v : Option AObj) : PT.set (d + 1) (.node o l r) i v = match Nat.beq (Nat.land (Nat.shiftRight i d) 1) 0 with
    | true => .node o (PT.set d l i v) r
    | false => .node o l (PT.set d r i v) := by
  cases h : Nat.beq (Nat.land (Nat.shiftRight i d) 1) 0
  · exact (show PT.set (d + 1) (.node o l r) i v = Bool.rec (motive := fun _ => PT) (.node o l (PT.set d r i v)) (.node o (PT.set d l i v) r) (Nat.beq (Nat.land (Nat.shiftRight i d) 1) 0) from by first | rfl | (simp only [PT.set, h])).trans (by rw [h])
  · exact (show PT.set (d + 1) (.node o l r) i v = Bool.rec (motive := fun _ => PT) (.node o l (PT.set d r i v)) (.node o (PT.set d l i v) r) (Nat.beq (Nat.land (Nat.shiftRight i d) 1) 0) from by first | rfl | (simp only [PT.set, h])).trans (by rw [h])
theorem PT.get_nil (d i : Nat) : PT.get d .nil i = none := by cases d <;> rfl
theorem PT.get_set_same (d : Nat) : ∀ (t : PT) (i : Nat) (v : Option AObj), PT.get d (PT.set d t i v) i = v := by
  induction d with
  | zero => intro t i v; cases t <;> rfl
  | succ d ih =>
    intro t i v
    cases t <;> simp only [PT.set_nil, PT.set_succ] <;> cases hb : Nat.beq (Nat.land (Nat.shiftRight i d) 1) 0 <;> simp only [PT.get_succ, hb, ih]
theorem bit_mod (i d : Nat) : (Nat.beq (Nat.land (Nat.shiftRight i d) 1) 0 = true ∧ i % 2 ^ (d + 1) = i % 2 ^ d) ∨ (Nat.beq (Nat.land (Nat.shiftRight i d) 1) 0 = false ∧ i % 2 ^ (d + 1) = i % 2 ^ d + 2 ^ d) := by
  have e1 : Nat.land (Nat.shiftRight i d) 1 = i / 2 ^ d % 2 := by
    show (i >>> d) &&& 1 = _
    rw [Nat.and_one_is_mod, Nat.shiftRight_eq_div_pow]
  rw [e1, Nat.mod_pow_succ]
  rcases Nat.mod_two_eq_zero_or_one (i / 2 ^ d) with e | e <;> rw [e]
  · exact .inl ⟨rfl, by simp⟩
  · exact .inr ⟨rfl, by simp⟩
theorem PT.get_set_mod (d : Nat) : ∀ (t : PT) (i j : Nat) (v : Option AObj), i % 2 ^ d ≠ j % 2 ^ d → PT.get d (PT.set d t i v) j = PT.get d t j := by
  induction d with
  | zero => intro t i j v hn; exact absurd (by simp [Nat.mod_one]) hn
  | succ d ih =>
    intro t i j v hn
    rcases bit_mod i d with ⟨bi, mi⟩ | ⟨bi, mi⟩ <;> rcases bit_mod j d with ⟨bj, mj⟩ | ⟨bj, mj⟩ <;> cases t <;> simp only [PT.set_nil, PT.set_succ, bi, PT.get_succ, bj, PT.get_nil]
    all_goals (rw [ih _ _ _ _ (by rw [mi, mj] at hn; omega)]; try simp only [PT.get_nil])
theorem PT.get_set_other (d : Nat) (t : PT) (i j : Nat) (v : Option AObj) (hi : i < 2 ^ d) (hj : j < 2 ^ d) (hn : i ≠ j) : PT.get d (PT.set d t i v) j = PT.get d t j :=
  PT.get_set_mod d t i j v (by rw [Nat.mod_eq_of_lt hi, Nat.mod_eq_of_lt hj]; exact hn)
def dep : Nat := 13

/- A store: the next number; objects below lim are not to be written; the objects. -/
structure Sto where
  nx : Nat
  lim : Nat
  m : PT

def Sto.get (s : Sto) (i : Nat) : Option AObj :=
  match Nat.ble 8192 i with
  | true => none
  | false => PT.get dep s.m i
def Sto.set (s : Sto) (i : Nat) (o : AObj) : Sto :=
  match s with
  | ⟨nx, lim, m⟩ => ⟨nx, lim, PT.set dep m i (some o)⟩
def Sto.del (s : Sto) (i : Nat) : Sto :=
  match s with
  | ⟨nx, lim, m⟩ => ⟨nx, lim, PT.set dep m i none⟩
def Sto.add (s : Sto) (o : AObj) : Sto :=
  match s with
  | ⟨nx, lim, m⟩ => ⟨Nat.succ nx, lim, PT.set dep m nx (some o)⟩
def Sto.empty : Sto := ⟨0, 0, .nil⟩

theorem Sto.get_big {s : Sto} {i : Nat} (h : ¬ i < 8192) : s.get i = none := by
  unfold Sto.get
  rw [show Nat.ble 8192 i = true from Nat.ble_eq_true_of_le (by omega)]
theorem Sto.get_small {s : Sto} {i : Nat} (h : i < 8192) : s.get i = PT.get dep s.m i := by
  unfold Sto.get
  rw [show Nat.ble 8192 i = false from by rw [Bool.eq_false_iff]; exact fun e => by have := Nat.le_of_ble_eq_true e; omega]
theorem Sto.lt_of_get {s : Sto} {i : Nat} {o : AObj} (h : s.get i = some o) : i < 8192 := by
  by_cases hi : i < 8192
  · exact hi
  · rw [Sto.get_big hi] at h; simp at h
theorem Sto.get_empty (i : Nat) : Sto.empty.get i = none := by
  by_cases hi : i < 8192
  · rw [Sto.get_small hi]; exact PT.get_nil _ _
  · exact Sto.get_big hi
theorem Sto.get_set_same {s : Sto} {i : Nat} {o : AObj} (h : i < 8192) : (s.set i o).get i = some o := by
  rw [Sto.get_small h]; exact PT.get_set_same _ _ _ _
theorem Sto.get_set_other {s : Sto} {i j : Nat} {o : AObj} (h : i < 8192) (hn : j ≠ i) : (s.set i o).get j = s.get j := by
  by_cases hj : j < 8192
  · rw [Sto.get_small hj, Sto.get_small hj]; exact PT.get_set_other _ _ _ _ _ h hj (Ne.symm hn)
  · rw [Sto.get_big hj, Sto.get_big hj]
theorem Sto.get_del_same {s : Sto} {i : Nat} : (s.del i).get i = none := by
  by_cases h : i < 8192
  · rw [Sto.get_small h]; exact PT.get_set_same _ _ _ _
  · exact Sto.get_big h
theorem Sto.get_del_other {s : Sto} {i j : Nat} (h : i < 8192) (hn : j ≠ i) : (s.del i).get j = s.get j := by
  by_cases hj : j < 8192
  · rw [Sto.get_small hj, Sto.get_small hj]; exact PT.get_set_other _ _ _ _ _ h hj (Ne.symm hn)
  · rw [Sto.get_big hj, Sto.get_big hj]
theorem Sto.get_add_same {s : Sto} {o : AObj} (h : s.nx < 8192) : (s.add o).get s.nx = some o := by
  rw [Sto.get_small h]; exact PT.get_set_same _ _ _ _
theorem Sto.get_add_other {s : Sto} {j : Nat} {o : AObj} (h : s.nx < 8192) (hn : j ≠ s.nx) : (s.add o).get j = s.get j := by
  by_cases hj : j < 8192
  · rw [Sto.get_small hj, Sto.get_small hj]; exact PT.get_set_other _ _ _ _ _ h hj (Ne.symm hn)
  · rw [Sto.get_big hj, Sto.get_big hj]

/- Values by numbers of slots. -/
noncomputable def lk (l : List (Nat × AV)) (t : Nat) : Option AV :=
  List.rec (motive := fun _ => Option AV) none (fun p _ ih => Bool.rec (motive := fun _ => Option AV) ih (some p.2) (Nat.beq p.1 t)) l
noncomputable def up (l : List (Nat × AV)) (t : Nat) (v : AV) : List (Nat × AV) :=
  List.rec (motive := fun _ => List (Nat × AV)) [(t, v)] (fun p r ih => Bool.rec (motive := fun _ => List (Nat × AV)) (p :: ih) ((p.1, v) :: r) (Nat.beq p.1 t)) l

theorem lk_nil (t : Nat) : lk [] t = none := rfl
theorem lk_cons (k : Nat) (v : AV) (r : List (Nat × AV)) (t : Nat) : lk ((k, v) :: r) t = match Nat.beq k t with
    | true => some v
    | false => lk r t := by
  cases h : Nat.beq k t
  · exact (show lk ((k, v) :: r) t = Bool.rec (motive := fun _ => Option AV) (lk r t) (some v) (Nat.beq k t) from by first | rfl | (simp only [lk, h])).trans (by rw [h])
  · exact (show lk ((k, v) :: r) t = Bool.rec (motive := fun _ => Option AV) (lk r t) (some v) (Nat.beq k t) from by first | rfl | (simp only [lk, h])).trans (by rw [h])
theorem up_nil (t : Nat) (v : AV) : up [] t v = [(t, v)] := rfl
theorem up_cons (k : Nat) (u : AV) (r : List (Nat × AV)) (t : Nat) (v : AV) : up ((k, u) :: r) t v = match Nat.beq k t with
    | true => (k, v) :: r
    | false => (k, u) :: up r t v := by
  cases h : Nat.beq k t
  · exact (show up ((k, u) :: r) t v = Bool.rec (motive := fun _ => List (Nat × AV)) ((k, u) :: up r t v) ((k, v) :: r) (Nat.beq k t) from by first | rfl | (simp only [up, h])).trans (by rw [h])
  · exact (show up ((k, u) :: r) t v = Bool.rec (motive := fun _ => List (Nat × AV)) ((k, u) :: up r t v) ((k, v) :: r) (Nat.beq k t) from by first | rfl | (simp only [up, h])).trans (by rw [h])
theorem lk_up_same (l : List (Nat × AV)) (t : Nat) (v : AV) : lk (up l t v) t = some v := by
  induction l with
  | nil => simp [up_nil, lk_cons]
  | cons a r ih =>
    obtain ⟨k, u⟩ := a
    simp only [up_cons]
    cases h : Nat.beq k t with
    | true => simp [lk_cons, h]
    | false => simp [lk_cons, h, ih]
theorem lk_up_other (l : List (Nat × AV)) {t s : Nat} (v : AV) (hn : s ≠ t) : lk (up l t v) s = lk l s := by
  induction l with
  | nil =>
    simp only [up_nil, lk_nil, lk_cons]
    rw [show Nat.beq t s = false from by rw [Bool.eq_false_iff]; exact fun e => hn (Nat.eq_of_beq_eq_true e).symm]
  | cons a r ih =>
    obtain ⟨k, u⟩ := a
    simp only [up_cons]
    cases h : Nat.beq k t with
    | true =>
      have hk : k = t := Nat.eq_of_beq_eq_true h
      simp only [lk_cons]
      rw [show Nat.beq k s = false from by rw [Bool.eq_false_iff]; exact fun e => hn ((Nat.eq_of_beq_eq_true e).symm.trans hk)]
    | false => simp only [lk_cons, ih]

def LR (g : Gh) (l : List (Nat × AV)) (tmps : Array Value) : Prop := ∀ (t : Nat) (v : AV), lk l t = some v → ∃ x, tmps[t]? = some x ∧ VR g v x

theorem LR.mono {g g' : Gh} (hg : Gh.le g g') {l : List (Nat × AV)} {tmps : Array Value} (h : LR g l tmps) : LR g' l tmps :=
  fun t v e => let ⟨x, hx, hv⟩ := h t v e; ⟨x, hx, hv.mono hg⟩

/- How an object stands for a block. -/
def ObR (g : Gh) (l : Loc) (x : Option Obj) : AObj → Prop
  | .arr sz es => ∃ c t, x = some (.cells c t (0, 0)) ∧ c.size = l.bz ∧ l.sz = sz ∧ l.base + es.length * sz ≤ c.size ∧ (∀ e, e ∈ es → e.cells.length = sz) ∧
      ∀ (i j : Nat) (e a : AV) (y : Value), es[i]? = some e → e.cells[j]? = some a → c[l.base + i * sz + j]? = some y → VR g a y
  | .mp kvs => ∃ es clock, x = some (.map es clock) ∧ es.size = kvs.length ∧
      (∀ (k : Nat) (kv : AV × AV) (e : MapEntry), kvs[k]? = some kv → es[k]? = some e → VR g kv.1 e.key ∧ VR g kv.2 e.val) ∧ clock = es.size ∧ ∀ (k : Nat) (e : MapEntry), es[k]? = some e → e.born = k
  | .lp st pending fn n _ env params assign body => ∃ lo, x = some (.loop lo) ∧ lo.state = st ∧ lo.pending = pending ∧ lo.fn = fn ∧ lo.tmps.size = n ∧ LR g env lo.tmps ∧
      lo.params = params.toArray ∧ lo.assign = assign ∧ lo.body = body
  | .df o => x = some (.deferred (if o then some [] else none))
  | .si s p => x = some (.stringIter s p) ∧ l.base = 0
  | .mi m since seen => ∃ lm, g.ph m = some lm ∧ x = some (.mapIter (some lm.blk) since seen.toArray since) ∧ l.base = 0
  | .mz => ∃ a b c, x = some (.mapIter none a b c) ∧ l.base = 0

theorem ObR.mono {g g' : Gh} (hg : Gh.le g g') {l : Loc} {x : Option Obj} {o : AObj} (h : ObR g l x o) : ObR g' l x o := by
  cases o with
  | arr sz es =>
    obtain ⟨c, t, h1, h2, h3, h4, h5, h6⟩ := h
    exact ⟨c, t, h1, h2, h3, h4, h5, fun i j e a y p q r => (h6 i j e a y p q r).mono hg⟩
  | mp kvs =>
    obtain ⟨es, k, h1, h2, h3, h4⟩ := h
    exact ⟨es, k, h1, h2, fun i kv e p q => ⟨(h3 i kv e p q).1.mono hg, (h3 i kv e p q).2.mono hg⟩, h4⟩
  | lp st pending fn n mk env params assign body =>
    obtain ⟨lo, h1, h2, h3, h4, h5, h6, h7, h8, h9⟩ := h
    exact ⟨lo, h1, h2, h3, h4, h5, h6.mono hg, h7, h8, h9⟩
  | df o => exact h
  | si s p => exact h
  | mi m since seen => obtain ⟨lm, a, b, c⟩ := h; exact ⟨lm, hg.ph _ _ a, b, c⟩
  | mz => exact h
theorem ObR.some {g : Gh} {l : Loc} {x : Option Obj} {o : AObj} (h : ObR g l x o) : ∃ y, x = some y := by
  cases o with
  | arr sz es => obtain ⟨c, t, h1, _⟩ := h; exact ⟨_, h1⟩
  | mp kvs => obtain ⟨es, k, h1, _⟩ := h; exact ⟨_, h1⟩
  | lp st pending fn n mk env params assign body => obtain ⟨lo, h1, _⟩ := h; exact ⟨_, h1⟩
  | df o => exact ⟨_, h⟩
  | si s p => exact ⟨_, h.1⟩
  | mi m since seen => obtain ⟨lm, a, b, c⟩ := h; exact ⟨_, b⟩
  | mz => obtain ⟨a, b, c, h, _⟩ := h; exact ⟨_, h⟩

/- How a store stands for a part of a world. -/
structure Inv (S : Sto) (g : Gh) (w : World) : Prop where
  ro : ∀ b c, g.ro b = some c → ∃ t fz, w.heap[b]? = some (.cells c t fz)
  ob : ∀ id o, S.get id = some o → ∃ l, g.ph id = some l ∧ g.ro l.blk = none ∧ ObR g l w.heap[l.blk]? o
  inj : ∀ id id' o o' l l', S.get id = some o → S.get id' = some o' → g.ph id = some l → g.ph id' = some l' → l.blk = l'.blk → id = id'
  fresh : ∀ id, S.nx ≤ id → g.ph id = none

/- What may have turned between two states. -/
structure Ext (S : Sto) (g : Gh) (w : World) (S' : Sto) (g' : Gh) (w' : World) : Prop where
  size : w.heap.size ≤ w'.heap.size
  os : w'.os = w.os
  tape : w'.tape = w.tape
  output : w'.output = w.output
  keep : ∀ b, b < w.heap.size → (∀ id o l, S.get id = some o → S.lim ≤ id → g.ph id = some l → l.blk ≠ b) → w'.heap[b]? = w.heap[b]?
  own : ∀ id o l, S'.get id = some o → S.lim ≤ id → g'.ph id = some l → l.blk < w.heap.size → ∃ id0 o0 l0, S.get id0 = some o0 ∧ S.lim ≤ id0 ∧ g.ph id0 = some l0 ∧ l0.blk = l.blk
  gle : Gh.le g g'
  nx : S.nx ≤ S'.nx
  lim : S'.lim = S.lim
  prot : ∀ id, id < S.lim → S'.get id = S.get id
  old : ∀ id, id < S.nx → g'.ph id = g.ph id
  ron : ∀ b c, g'.ro b = some c → b < w.heap.size → g.ro b = some c ∨ ∃ id0 o0 l0, S.get id0 = some o0 ∧ S.lim ≤ id0 ∧ g.ph id0 = some l0 ∧ l0.blk = b
  dead : ∀ id, id < S.nx → S.get id = none → S'.get id = none
  fz : ∀ a, w'.frozen? a = w.frozen? a

theorem Ext.refl (S : Sto) (g : Gh) (w : World) : Ext S g w S g w :=
  ⟨Nat.le_refl _, rfl, rfl, rfl, fun _ _ _ => rfl, fun id o l h h1 h2 _ => ⟨id, o, l, h, h1, h2, rfl⟩, Gh.le_refl _, Nat.le_refl _, rfl, fun _ _ => rfl, fun _ _ => rfl, fun _ _ e _ => .inl e, fun _ _ e => e, fun _ => rfl⟩

/- An object of a store is not frozen. -/
def unfz : Option Obj → Bool
  | some (.cells _ _ (0, 0)) => true
  | some (.cells _ _ _) => false
  | _ => true
theorem frozen_unfz {w : World} {a : Addr} (h : unfz w.heap[a.block]? = true) : w.frozen? a = false := by
  unfold World.frozen?
  generalize w.heap[a.block]? = x at h
  cases x with
  | none => rfl
  | some ob =>
    cases ob with
    | cells c t fz =>
      obtain ⟨lo, hi⟩ := fz
      cases lo with
      | zero =>
        cases hi with
        | zero => simp
        | succ n => simp [unfz] at h
      | succ n => simp [unfz] at h
    | _ => rfl
theorem ObR.unfz {g : Gh} {l : Loc} {x : Option Obj} {o : AObj} (h : ObR g l x o) : unfz x = true := by
  cases o with
  | arr sz es => obtain ⟨c, t, h1, _⟩ := h; rw [h1]; rfl
  | mp kvs => obtain ⟨es, k, h1, _⟩ := h; rw [h1]; rfl
  | lp st pending fn n mk env params assign body => obtain ⟨lo, h1, _⟩ := h; rw [h1]; rfl
  | df o => have h : x = _ := h; rw [h]; rfl
  | si s p => rw [h.1]; rfl
  | mi m since seen => obtain ⟨lm, a, b, c⟩ := h; rw [b]; rfl
  | mz => obtain ⟨a, b, c, h, _⟩ := h; rw [h]; rfl
theorem frozen_same {w w' : World} {b : Nat} (hb : unfz w.heap[b]? = true) (hb' : unfz w'.heap[b]? = true) (ho : ∀ k, k ≠ b → w'.heap[k]? = w.heap[k]?) (a : Addr) : w'.frozen? a = w.frozen? a := by
  by_cases e : a.block = b
  · rw [frozen_unfz (w := w) (by rw [e]; exact hb), frozen_unfz (w := w') (by rw [e]; exact hb')]
  · unfold World.frozen?
    rw [ho _ e]

theorem Ext.trans {S S' S'' : Sto} {g g' g'' : Gh} {w w' w'' : World} (h : Ext S g w S' g' w') (k : Ext S' g' w' S'' g'' w'') : Ext S g w S'' g'' w'' := by
  refine ⟨Nat.le_trans h.size k.size, k.os.trans h.os, k.tape.trans h.tape, k.output.trans h.output, ?_, ?_, Gh.le_trans h.gle k.gle, Nat.le_trans h.nx k.nx, k.lim.trans h.lim, ?_, ?_, ?_, fun id hid e => k.dead id (Nat.lt_of_lt_of_le hid h.nx) (h.dead id hid e), fun a => (k.fz a).trans (h.fz a)⟩
  · intro b hb hne
    rw [k.keep b (Nat.lt_of_lt_of_le hb h.size) ?_, h.keep b hb hne]
    intro id o l e1 e2 e3 e4
    obtain ⟨id0, o0, l0, f1, f2, f3, f4⟩ := h.own id o l e1 (h.lim ▸ e2) e3 (e4 ▸ hb)
    exact hne id0 o0 l0 f1 f2 f3 (f4.trans e4)
  · intro id o l e1 e2 e3 e4
    obtain ⟨id0, o0, l0, f1, f2, f3, f4⟩ := k.own id o l e1 (h.lim.symm ▸ e2) e3 (Nat.lt_of_lt_of_le e4 h.size)
    obtain ⟨id1, o1, l1, p1, p2, p3, p4⟩ := h.own id0 o0 l0 f1 (h.lim ▸ f2) f3 (f4 ▸ e4)
    exact ⟨id1, o1, l1, p1, p2, p3, p4.trans f4⟩
  · intro id hid
    rw [k.prot id (h.lim.symm ▸ hid), h.prot id hid]
  · intro id hid
    rw [k.old id (Nat.lt_of_lt_of_le hid h.nx), h.old id hid]
  · intro b c e hb
    rcases k.ron b c e (Nat.lt_of_lt_of_le hb h.size) with q | ⟨id0, o0, l0, f1, f2, f3, f4⟩
    · exact h.ron b c q hb
    · obtain ⟨id1, o1, l1, p1, p2, p3, p4⟩ := h.own id0 o0 l0 f1 (h.lim ▸ f2) f3 (f4 ▸ hb)
      exact .inr ⟨id1, o1, l1, p1, p2, p3, p4.trans f4⟩

def Gh.add (g : Gh) (id : Nat) (l : Loc) : Gh := { g with ph := fun k => if k = id then some l else g.ph k }
theorem Gh.add_same (g : Gh) (id : Nat) (l : Loc) : (g.add id l).ph id = some l := by simp [Gh.add]
theorem Gh.add_other (g : Gh) {id k : Nat} (l : Loc) (h : k ≠ id) : (g.add id l).ph k = g.ph k := by simp [Gh.add, h]
theorem Gh.le_add {g : Gh} {id : Nat} (l : Loc) (h : g.ph id = none) : Gh.le g (g.add id l) :=
  ⟨fun _ _ e => e, fun k x e => by rw [Gh.add_other]; exact e; rintro rfl; rw [h] at e; simp at e⟩

theorem Inv.lt_nx {S : Sto} {g : Gh} {w : World} (h : Inv S g w) {id : Nat} {l : Loc} (e : g.ph id = some l) : id < S.nx := by
  rcases Nat.lt_or_ge id S.nx with k | k
  · exact k
  · rw [h.fresh id k] at e; simp at e
theorem Inv.get_lt {S : Sto} {g : Gh} {w : World} (h : Inv S g w) {id : Nat} {o : AObj} (e : S.get id = some o) : id < S.nx :=
  let ⟨_, hl, _, _⟩ := h.ob id o e; h.lt_nx hl
theorem Inv.ro_lt {S : Sto} {g : Gh} {w : World} (h : Inv S g w) {b : Nat} {c : Array Value} (e : g.ro b = some c) : b < w.heap.size := by
  obtain ⟨t, fz, hh⟩ := h.ro b c e
  exact (Array.getElem?_eq_some_iff.1 hh).1
theorem ObR.lt {g : Gh} {l : Loc} {w : World} {o : AObj} (h : ObR g l w.heap[l.blk]? o) : l.blk < w.heap.size := by
  obtain ⟨y, hy⟩ := h.some
  exact (Array.getElem?_eq_some_iff.1 hy).1

/- A new object in a new block. -/
theorem Inv.alloc {S : Sto} {g : Gh} {w w' : World} (h : Inv S g w) (hn : S.nx < 8192) {o : AObj} {ob : Obj} {l : Loc} (hl : l.blk = w.heap.size) (hob : ObR g l (some ob) o)
    (hh : w'.heap = w.heap.push ob) (hos : w'.os = w.os) (ht : w'.tape = w.tape) (hou : w'.output = w.output) (hlim : S.lim ≤ S.nx) :
    Inv (S.add o) (g.add S.nx l) w' ∧ Ext S g w (S.add o) (g.add S.nx l) w' := by
  have hf := h.fresh S.nx (Nat.le_refl _)
  have hle : Gh.le g (g.add S.nx l) := Gh.le_add l hf
  have hold : ∀ b, b < w.heap.size → w'.heap[b]? = w.heap[b]? := by
    intro b hb; rw [hh, Array.getElem?_push, if_neg (by omega)]
  have hnew : w'.heap[w.heap.size]? = some ob := by rw [hh, Array.getElem?_push, if_pos rfl]
  have hrn : g.ro w.heap.size = none := by
    cases e : g.ro w.heap.size with
    | none => rfl
    | some c => exact absurd (h.ro_lt e) (by omega)
  refine ⟨⟨?_, ?_, ?_, ?_⟩, ⟨?_, hos, ht, hou, ?_, ?_, hle, ?_, rfl, ?_, fun k hk => Gh.add_other _ _ (by omega), fun _ _ e _ => .inl e, fun id hid e => by rw [Sto.get_add_other hn (by omega)]; exact e, frozen_same (b := w.heap.size) (by rw [Array.getElem?_eq_none (Nat.le_refl _)]; rfl) (by rw [hnew]; exact hob.unfz) (fun k hk => by rw [hh, Array.getElem?_push, if_neg hk])⟩⟩
  · intro b c e
    obtain ⟨t, fz, e'⟩ := h.ro b c e
    exact ⟨t, fz, (hold b (h.ro_lt e)).trans e'⟩
  · intro id ao e
    by_cases hid : id = S.nx
    · subst hid
      rw [Sto.get_add_same hn] at e
      simp only [Option.some.injEq] at e
      subst e
      refine ⟨l, Gh.add_same _ _ _, ?_, ?_⟩
      · rw [hl]; exact hrn
      · rw [hl, hnew]; exact hob.mono hle
    · rw [Sto.get_add_other hn hid] at e
      obtain ⟨l', e1, e2, e3⟩ := h.ob id ao e
      refine ⟨l', (Gh.add_other _ _ hid).trans e1, e2, ?_⟩
      rw [hold _ e3.lt]
      exact e3.mono hle
  · intro id id' o1 o2 l1 l2 e1 e2 p1 p2 hb
    by_cases hid : id = S.nx <;> by_cases hid' : id' = S.nx
    · rw [hid, hid']
    · exfalso
      subst hid
      rw [Gh.add_same] at p1; rw [Gh.add_other _ _ hid'] at p2; rw [Sto.get_add_other hn hid'] at e2
      obtain ⟨l', q1, _, q3⟩ := h.ob _ _ e2
      rw [p2] at q1; simp only [Option.some.injEq] at q1 p1; subst q1; subst p1
      have := q3.lt; omega
    · exfalso
      subst hid'
      rw [Gh.add_same] at p2; rw [Gh.add_other _ _ hid] at p1; rw [Sto.get_add_other hn hid] at e1
      obtain ⟨l', q1, _, q3⟩ := h.ob _ _ e1
      rw [p1] at q1; simp only [Option.some.injEq] at q1 p2; subst q1; subst p2
      have := q3.lt; omega
    · rw [Gh.add_other _ _ hid] at p1; rw [Gh.add_other _ _ hid'] at p2
      rw [Sto.get_add_other hn hid] at e1; rw [Sto.get_add_other hn hid'] at e2
      exact h.inj id id' o1 o2 l1 l2 e1 e2 p1 p2 hb
  · intro id hid
    have hid' : S.nx + 1 ≤ id := hid
    rw [Gh.add_other _ _ (by omega)]
    exact h.fresh id (by omega)
  · rw [hh, Array.size_push]; omega
  · intro b hb _; exact hold b hb
  · intro id o1 l1 e1 e2 e3 e4
    by_cases hid : id = S.nx
    · subst hid; rw [Gh.add_same] at e3; simp only [Option.some.injEq] at e3; subst e3; omega
    · rw [Sto.get_add_other hn hid] at e1; rw [Gh.add_other _ _ hid] at e3
      exact ⟨id, o1, l1, e1, e2, e3, rfl⟩
  · show S.nx ≤ S.nx + 1; omega
  · intro id hid; exact Sto.get_add_other hn (by omega)

/- An object that is written. -/
theorem Inv.upd {S : Sto} {g : Gh} {w w' : World} (h : Inv S g w) {id : Nat} {o o' : AObj} {l : Loc} {ob' : Obj} (hid : S.get id = some o) (hlim : S.lim ≤ id) (hl : g.ph id = some l)
    (hs : w'.heap.size = w.heap.size) (hb : w'.heap[l.blk]? = some ob') (ho : ∀ k, k ≠ l.blk → w'.heap[k]? = w.heap[k]?)
    (hos : w'.os = w.os) (ht : w'.tape = w.tape) (hou : w'.output = w.output) (hob : ObR g l (some ob') o') :
    Inv (S.set id o') g w' ∧ Ext S g w (S.set id o') g w' := by
  have hi := Sto.lt_of_get hid
  obtain ⟨l0, q1, q2, q3⟩ := h.ob id o hid
  rw [hl] at q1; simp only [Option.some.injEq] at q1; subst q1
  refine ⟨⟨?_, ?_, ?_, ?_⟩, ⟨?_, hos, ht, hou, ?_, ?_, Gh.le_refl _, Nat.le_refl _, rfl, ?_, fun _ _ => rfl, fun _ _ e _ => .inl e, fun id' _ e => by
    rw [Sto.get_set_other hi (by rintro rfl; rw [hid] at e; simp at e)]; exact e, frozen_same (b := l.blk) q3.unfz (by rw [hb]; exact hob.unfz) ho⟩⟩
  · intro b c e
    obtain ⟨t, fz, e'⟩ := h.ro b c e
    refine ⟨t, fz, (ho b ?_).trans e'⟩
    rintro rfl; rw [q2] at e; simp at e
  · intro id' ao e
    by_cases hd : id' = id
    · subst hd
      rw [Sto.get_set_same hi] at e; simp only [Option.some.injEq] at e; subst e
      exact ⟨l, hl, q2, by rw [hb]; exact hob⟩
    · rw [Sto.get_set_other hi hd] at e
      obtain ⟨l', e1, e2, e3⟩ := h.ob id' ao e
      refine ⟨l', e1, e2, ?_⟩
      rw [ho]; exact e3
      intro eb; exact hd (h.inj id' id ao o l' l e hid e1 hl eb)
  · intro a b o1 o2 l1 l2 e1 e2 p1 p2 hbk
    have key : ∀ k o1, (S.set id o').get k = some o1 → ∃ o2, S.get k = some o2 := by
      intro k o1 e
      by_cases hd : k = id
      · subst hd; exact ⟨o, hid⟩
      · rw [Sto.get_set_other hi hd] at e; exact ⟨o1, e⟩
    obtain ⟨o1', e1'⟩ := key a o1 e1
    obtain ⟨o2', e2'⟩ := key b o2 e2
    exact h.inj a b o1' o2' l1 l2 e1' e2' p1 p2 hbk
  · intro k hk; exact h.fresh k hk
  · omega
  · intro b hb' hne
    exact ho b (fun e => hne id o l hid hlim hl e.symm)
  · intro id' o1 l1 e1 e2 e3 e4
    by_cases hd : id' = id
    · subst hd; exact ⟨id', o, l1, hid, e2, e3, rfl⟩
    · rw [Sto.get_set_other hi hd] at e1; exact ⟨id', o1, l1, e1, e2, e3, rfl⟩
  · intro id' hid'; exact Sto.get_set_other hi (by omega)

/- A store that knows less. -/
structure Sto.sub (A B : Sto) : Prop where
  nx : B.nx = A.nx
  lim : A.lim = B.lim
  get : ∀ id o, A.get id = some o → B.get id = some o

theorem Inv.sub {A B : Sto} {g : Gh} {w : World} (hs : Sto.sub A B) (h : Inv B g w) : Inv A g w :=
  ⟨h.ro, fun id o e => h.ob id o (hs.get id o e), fun id id' o o' l l' e e' => h.inj id id' o o' l l' (hs.get _ _ e) (hs.get _ _ e'), fun id hid => h.fresh id (by rw [hs.nx]; exact hid)⟩

theorem Sto.del_sub {S : Sto} {id : Nat} (h : id < 8192) : Sto.sub (S.del id) S :=
  ⟨rfl, rfl, fun k o e => by
    by_cases hk : k = id
    · subst hk; rw [Sto.get_del_same] at e; simp at e
    · rw [Sto.get_del_other h hk] at e; exact e⟩

/- Objects that are forgotten. -/
theorem Ext.forget {A B : Sto} {g : Gh} {w : World} (hs : Sto.sub A B) (hp : ∀ id, id < B.lim → A.get id = B.get id) : Ext B g w A g w :=
  ⟨Nat.le_refl _, rfl, rfl, rfl, fun _ _ _ => rfl, fun id o l e e1 e2 _ => ⟨id, o, l, hs.get id o e, e1, e2, rfl⟩, Gh.le_refl _, by rw [hs.nx]; exact Nat.le_refl _, hs.lim, hp, fun _ _ => rfl, fun _ _ e _ => .inl e, fun id _ e => by
    cases q : A.get id with
    | none => rfl
    | some o => rw [hs.get id o q] at e; simp at e, fun _ => rfl⟩

/- An object that goes on under another number, in the same block. -/
theorem Inv.move {S : Sto} {g : Gh} {w w' : World} (h : Inv S g w) (hn : S.nx < 8192) {id : Nat} {o o' : AObj} {l l' : Loc} {ob' : Obj} (hid : S.get id = some o) (hlim : S.lim ≤ id) (hl : g.ph id = some l) (hl' : l'.blk = l.blk)
    (hs : w'.heap.size = w.heap.size) (hb : w'.heap[l.blk]? = some ob') (ho : ∀ k, k ≠ l.blk → w'.heap[k]? = w.heap[k]?)
    (hos : w'.os = w.os) (ht : w'.tape = w.tape) (hou : w'.output = w.output) (hob : ObR g l' (some ob') o') :
    Inv ((S.del id).add o') (g.add S.nx l') w' ∧ Ext S g w ((S.del id).add o') (g.add S.nx l') w' := by
  have hi := Sto.lt_of_get hid
  have hlt := h.get_lt hid
  have hf := h.fresh S.nx (Nat.le_refl _)
  have hle : Gh.le g (g.add S.nx l') := Gh.le_add l' hf
  have hnd : (S.del id).nx < 8192 := hn
  obtain ⟨l0, q1, q2, q3⟩ := h.ob id o hid
  rw [hl] at q1; simp only [Option.some.injEq] at q1; subst q1
  have gs : ((S.del id).add o').get S.nx = some o' := Sto.get_add_same (s := S.del id) hnd
  have go : ∀ k, k ≠ S.nx → ((S.del id).add o').get k = (S.del id).get k := fun k hk => Sto.get_add_other (s := S.del id) hnd hk
  have gd : ∀ k a, k ≠ S.nx → ((S.del id).add o').get k = some a → k ≠ id ∧ S.get k = some a := by
    intro k a hk e
    rw [go k hk] at e
    by_cases hd : k = id
    · subst hd; rw [Sto.get_del_same] at e; simp at e
    · rw [Sto.get_del_other hi hd] at e; exact ⟨hd, e⟩
  refine ⟨⟨?_, ?_, ?_, ?_⟩, ⟨?_, hos, ht, hou, ?_, ?_, hle, ?_, rfl, ?_, fun k hk => Gh.add_other _ _ (by omega), fun _ _ e _ => .inl e, fun k hk e => by
    rw [go k (by omega)]
    by_cases hd : k = id
    · subst hd; rw [hid] at e; simp at e
    · rw [Sto.get_del_other hi hd]; exact e, frozen_same (b := l.blk) q3.unfz (by rw [hb]; exact hob.unfz) ho⟩⟩
  · intro b c e
    obtain ⟨t, fz, e'⟩ := h.ro b c e
    refine ⟨t, fz, (ho b ?_).trans e'⟩
    rintro rfl
    have : g.ro l.blk = some c := e
    rw [q2] at this; simp at this
  · intro k a e
    by_cases hk : k = S.nx
    · subst hk; rw [gs] at e; simp only [Option.some.injEq] at e; subst e
      refine ⟨l', Gh.add_same _ _ _, ?_, ?_⟩
      · rw [hl']; exact q2
      · rw [hl', hb]; exact hob.mono hle
    · obtain ⟨hd, e'⟩ := gd k a hk e
      obtain ⟨l1, e1, e2, e3⟩ := h.ob k a e'
      refine ⟨l1, (Gh.add_other _ _ hk).trans e1, e2, ?_⟩
      rw [ho]; exact e3.mono hle
      intro eb; exact hd (h.inj k id a o l1 l e' hid e1 hl eb)
  · intro a b o1 o2 l1 l2 e1 e2 p1 p2 hbk
    by_cases ha : a = S.nx <;> by_cases hb' : b = S.nx
    · rw [ha, hb']
    · exfalso; subst ha
      rw [Gh.add_same] at p1; rw [Gh.add_other _ _ hb'] at p2
      simp only [Option.some.injEq] at p1; subst p1
      obtain ⟨hd, e'⟩ := gd b o2 hb' e2
      exact hd (h.inj b id o2 o l2 l e' hid p2 hl (hbk.symm.trans hl'))
    · exfalso; subst hb'
      rw [Gh.add_same] at p2; rw [Gh.add_other _ _ ha] at p1
      simp only [Option.some.injEq] at p2; subst p2
      obtain ⟨hd, e'⟩ := gd a o1 ha e1
      exact hd (h.inj a id o1 o l1 l e' hid p1 hl (hbk.trans hl'))
    · rw [Gh.add_other _ _ ha] at p1; rw [Gh.add_other _ _ hb'] at p2
      exact h.inj a b o1 o2 l1 l2 (gd a o1 ha e1).2 (gd b o2 hb' e2).2 p1 p2 hbk
  · intro k hk
    have hk' : S.nx + 1 ≤ k := hk
    rw [Gh.add_other _ _ (by omega)]; exact h.fresh k (by omega)
  · omega
  · intro b hb' hne
    exact ho b (fun e => hne id o l hid hlim hl e.symm)
  · intro k o1 l1 e1 e2 e3 e4
    by_cases hk : k = S.nx
    · subst hk; rw [Gh.add_same] at e3; simp only [Option.some.injEq] at e3; subst e3
      exact ⟨id, o, l, hid, hlim, hl, hl'.symm⟩
    · rw [Gh.add_other _ _ hk] at e3
      exact ⟨k, o1, l1, (gd k o1 hk e1).2, e2, e3, rfl⟩
  · show S.nx ≤ S.nx + 1; omega
  · intro k hk
    rw [go k (by omega), Sto.get_del_other hi (by omega)]

end
end Go.Eng

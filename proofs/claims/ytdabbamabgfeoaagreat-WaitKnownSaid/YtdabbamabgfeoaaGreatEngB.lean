/- Reading and writing memory through abstract values; no conditions. -/
import Derived.Test.YtdabbamabgfeoaaGreatEngA
import Derived.Laws.Sem
import Derived.Laws.World
namespace Go.Eng
noncomputable section

def nth {α : Type} : List α → Nat → Option α
  | [], _ => none
  | a :: _, 0 => some a
  | _ :: l, n + 1 => nth l n
theorem nth_eq {α : Type} (l : List α) (n : Nat) : nth l n = l[n]? := by
  induction l generalizing n with
  | nil => simp [nth]
  | cons a l ih => cases n with
    | zero => simp [nth]
    | succ n => simp [nth, ih]

def aggT (P : Program) (t : TypeId) : Option Bool :=
  match P.underlying t with
  | some (.struct _) => some true
  | some (.array _ _) => some true
  | some _ => some false
  | none => none
def szT (P : Program) (t : TypeId) : Option Nat :=
  match P.info? t with
  | some i => some i.size
  | none => none

section
variable {P : Program} {w : World}
theorem run_underlying' {t : TypeId} {d : TypeDesc} (h : P.underlying t = some d) : (underlying t).run P w = .ok d w := by
  simp [underlying, h]
theorem run_typeInfo' {t : TypeId} {i : TypeInfo} (h : P.info? t = some i) : (typeInfo t).run P w = .ok i w := by
  simp [typeInfo, h]
theorem run_isAgg {t : TypeId} {b : Bool} (h : aggT P t = some b) : (isAgg t).run P w = .ok b w := by
  unfold aggT at h
  split at h <;> simp only [Option.some.injEq, reduceCtorEq] at h
  · rename_i hu; subst h; simp [isAgg, run_underlying' hu]
  · rename_i hu; subst h; simp [isAgg, run_underlying' hu]
  · rename_i d h1 h2 hu
    subst h
    simp only [isAgg, Sem.run_bind, run_underlying' hu, Result.andThen_ok]
    cases d <;> first | rfl | exact absurd rfl (h1 _) | exact absurd rfl (h2 _ _) | exact (h1 _ rfl).elim | exact (h2 _ _ rfl).elim
theorem run_sizeOf {t : TypeId} {n : Nat} (h : szT P t = some n) : (sizeOf t).run P w = .ok n w := by
  unfold szT at h
  split at h <;> simp only [Option.some.injEq, reduceCtorEq] at h
  rename_i i hi
  subst h
  simp [sizeOf, run_typeInfo' hi]
end

theorem Addr.add_none (b o n : Nat) : (⟨b, o, none⟩ : Addr).add n = ⟨b, o + n, none⟩ := by
  unfold Addr.add
  split
  · rename_i h; subst h; simp
  · simp

theorem cell_of {w : World} {b o : Nat} {c : Array Value} {t : TypeId} {fz : Nat × Nat} {x : Value} (h : w.heap[b]? = some (.cells c t fz)) (hx : c[o]? = some x) : w.cell? ⟨b, o, none⟩ = some x := by
  simp [World.cell?, h, hx]

theorem run_loadCellsFrom {P : Program} {w : World} {b o : Nat} {c : Array Value} {t : TypeId} {fz : Nat × Nat} (h : w.heap[b]? = some (.cells c t fz)) : ∀ (n i : Nat) (acc : Array Value),
    o + i + n ≤ c.size → (loadCellsFrom ⟨b, o, none⟩ i n acc).run P w = .ok (acc ++ (c.extract (o + i) (o + i + n))) w := by
  intro n
  induction n with
  | zero =>
    intro i acc hle
    have : c.extract (o + i) (o + i + 0) = #[] := by apply Array.ext'; simp
    rw [this]; simp [loadCellsFrom]
  | succ n ih =>
    intro i acc hle
    have hx : c[o + i]? = some c[o + i] := Array.getElem?_eq_getElem (by omega)
    have hc : w.cell? ⟨b, o + i, none⟩ = some c[o + i] := cell_of h hx
    simp only [loadCellsFrom, Sem.run_bind, Addr.add_none, run_load, hc, Result.andThen_ok]
    rw [ih (i + 1) _ (by omega)]
    congr 1
    apply Array.ext'
    simp only [Array.toList_append, Array.toList_push, Array.toList_extract]
    rw [List.append_assoc]
    congr 1
    have e1 : o + (i + 1) + n - (o + (i + 1)) = n := by omega
    have e2 : o + i + (n + 1) - (o + i) = n + 1 := by omega
    simp only [List.extract_eq_take_drop] at *
    rw [e1, e2]
    rw [show c.toList.drop (o + i) = c[o + i] :: c.toList.drop (o + i + 1) from by
      rw [List.drop_eq_getElem_cons (by simp; omega)]; simp]
    simp [Nat.add_assoc]

theorem run_loadCells {P : Program} {w : World} {b o n : Nat} {c : Array Value} {t : TypeId} {fz : Nat × Nat} (h : w.heap[b]? = some (.cells c t fz)) (hle : o + n ≤ c.size) :
    (loadCells ⟨b, o, none⟩ n).run P w = .ok (c.extract o (o + n)) w := by
  have := run_loadCellsFrom (P := P) h n 0 #[] (by simpa using hle)
  simpa [loadCells] using this

/- Cells that are read one after the other. -/
def CellsR (g : Gh) (cs : List AV) (c : Array Value) (o : Nat) : Prop := o + cs.length ≤ c.size ∧ ∀ (j : Nat) (a : AV) (x : Value), cs[j]? = some a → c[o + j]? = some x → VR g a x

theorem CellsR.drop {g : Gh} {cs : List AV} {c : Array Value} {o : Nat} (h : CellsR g cs c o) {k : Nat} (hk : k ≤ cs.length) : CellsR g (cs.drop k) c (o + k) := by
  refine ⟨by have := h.1; simp; omega, fun j a x e e' => ?_⟩
  rw [List.getElem?_drop] at e
  exact h.2 (k + j) a x e (by rw [← e']; congr 1; omega)

theorem CellsR.vrs {g : Gh} {cs : List AV} {c : Array Value} {o n : Nat} (h : CellsR g cs c o) (hn : n ≤ cs.length) : VRs g (cs.take n) (c.extract o (o + n)) := by
  refine ⟨by have := h.1; simp; omega, fun k a x e e' => ?_⟩
  rw [List.getElem?_take] at e
  split at e
  · rw [Array.getElem?_extract] at e'
    split at e'
    · exact h.2 k a x e e'
    · simp at e'
  · simp at e

/- What can be read through a pointer. -/
def ptrCells (S : Sto) : AV → Option (List AV)
  | .ptr id i j => match S.get id with
    | some (.arr _ es) => match nth es i with
      | some e => match Nat.ble j e.cells.length with
        | true => some (e.cells.drop j)
        | false => none
      | none => none
    | _ => none
  | .lptr cs => some cs
  | _ => none

theorem ptrCells_sound {S : Sto} {g : Gh} {w : World} (hi : Inv S g w) {v : AV} {x : Value} {cs : List AV} (h : ptrCells S v = some cs) (hv : VR g v x) :
    ∃ b o c t fz, x = .pointer (some ⟨b, o, none⟩) ∧ w.heap[b]? = some (.cells c t fz) ∧ CellsR g cs c o := by
  unfold ptrCells at h
  split at h
  · rename_i id i j
    split at h <;> try (simp at h; done)
    rename_i sz es hg
    split at h <;> try (simp at h; done)
    rename_i e he
    rw [nth_eq] at he
    split at h <;> simp only [Option.some.injEq, reduceCtorEq] at h
    rename_i hj
    subst h
    cases hv with
    | ptr hl =>
      rename_i l
      obtain ⟨l', h1, h2, h3⟩ := hi.ob _ _ hg
      rw [hl] at h1; simp only [Option.some.injEq] at h1; subst h1
      obtain ⟨c, t, p1, p2, p3, p4, p5, p6⟩ := h3
      have hj' := Nat.le_of_ble_eq_true hj
      refine ⟨l.blk, _, c, t, _, rfl, p1, ?_⟩
      have hlen := p5 e (List.mem_of_getElem? he)
      have hie : i < es.length := (List.getElem?_eq_some_iff.1 he).1
      have hbig : l.base + i * l.sz + e.cells.length ≤ c.size := by
        rw [hlen, p3]
        have : i * sz + sz ≤ es.length * sz := by
          have : (i + 1) * sz ≤ es.length * sz := Nat.mul_le_mul_right _ hie
          rw [Nat.succ_mul] at this; exact this
        omega
      have : CellsR g e.cells c (l.base + i * l.sz) := ⟨hbig, fun k a y q r => p6 i k e a y he q (by rw [← p3]; exact r)⟩
      exact this.drop hj'
  · cases hv with
    | lptr hr hb hh =>
      simp only [Option.some.injEq] at h; subst h
      obtain ⟨t, fz, e⟩ := hi.ro _ _ hr
      exact ⟨_, _, _, t, fz, rfl, e, hb, hh⟩
  · simp at h

/- A value that is read. -/
def loadAV (P : Program) (t : TypeId) (cs : List AV) : Option AV :=
  match aggT P t with
  | some true => match szT P t with
    | some n => match Nat.ble n cs.length with
      | true => some (.agg (cs.take n))
      | false => none
    | none => none
  | some false => nth cs 0
  | none => none

theorem loadAV_sound {P : Program} {S : Sto} {g : Gh} {w : World} (hi : Inv S g w) {v r : AV} {x : Value} {cs : List AV} {t : TypeId} (h : ptrCells S v = some cs) (hl : loadAV P t cs = some r) (hv : VR g v x) :
    ∃ y, (Instr.loadAt t x).run P w = .ok y w ∧ VR g r y := by
  obtain ⟨b, o, c, t', fz, rfl, hc, hr⟩ := ptrCells_sound hi h hv
  unfold loadAV at hl
  split at hl
  · rename_i ha
    split at hl <;> try (simp at hl; done)
    rename_i n hn
    split at hl <;> simp only [Option.some.injEq, reduceCtorEq] at hl
    rename_i hle
    have hle := Nat.le_of_ble_eq_true hle
    subst hl
    refine ⟨.agg (c.extract o (o + n)), ?_, ?_⟩
    · simp only [Instr.loadAt, Instr.sureAddr, Sem.run_bind, Sem.run_pure, Result.andThen_ok, loadVar, run_isAgg ha, if_true, run_sizeOf hn]
      rw [run_loadCells hc (by have := hr.1; omega)]
      rfl
    · exact .agg (hr.vrs hle).1 (hr.vrs hle).2
  · rename_i ha
    rw [nth_eq] at hl
    have hlt : 0 < cs.length := (List.getElem?_eq_some_iff.1 hl).1
    have hoc : o < c.size := by have := hr.1; omega
    have hx : c[o]? = some c[o] := Array.getElem?_eq_getElem hoc
    refine ⟨c[o], ?_, hr.2 0 r _ hl (by simp)⟩
    simp only [Instr.loadAt, Instr.sureAddr, Sem.run_bind, Sem.run_pure, Result.andThen_ok, loadVar, run_isAgg ha, Bool.false_eq_true, if_false, run_load, cell_of hc hx]
  · simp at hl

/- What can stand in a cell. -/
def isCell : AV → Bool
  | .agg _ => false
  | .tup _ => false
  | .top => false
  | _ => true
theorem isCell_sound {g : Gh} {v : AV} {x : Value} (h : isCell v = true) (hv : VR g v x) : x.oneCell' = true := by
  cases hv with
  | sc h' => cases x <;> first | rfl | simp [isSc] at h'
  | agg => simp [isCell] at h
  | tup => simp [isCell] at h
  | top => simp [isCell] at h
  | _ => rfl

def setL {α : Type} : List α → Nat → List α → List α
  | l, _, [] => l
  | [], _, _ => []
  | _ :: l, 0, y :: ys => y :: setL l 0 ys
  | a :: l, n + 1, ys => a :: setL l n ys
theorem setL_length {α : Type} (l : List α) (n : Nat) (ys : List α) : (setL l n ys).length = l.length := by
  induction l generalizing n ys with
  | nil => cases ys <;> rfl
  | cons a l ih => cases ys with
    | nil => rfl
    | cons y ys => cases n <;> simp [setL, ih]
theorem setL_get {α : Type} (l : List α) (n : Nat) (ys : List α) (hl : n + ys.length ≤ l.length) (k : Nat) : (setL l n ys)[k]? = if n ≤ k ∧ k < n + ys.length then ys[k - n]? else l[k]? := by
  induction l generalizing n ys k with
  | nil => cases ys <;> simp_all [setL]
  | cons a l ih => cases ys with
    | nil => simp [setL]; intro h h'; omega
    | cons y ys =>
      cases n with
      | zero => cases k with
        | zero => simp [setL]
        | succ k =>
          simp only [setL, List.getElem?_cons_succ]
          rw [ih 0 ys (by simp at hl; omega)]
          simp
      | succ n => cases k with
        | zero => simp [setL]
        | succ k =>
          simp only [setL, List.getElem?_cons_succ]
          rw [ih n (y :: ys) (by simp at hl ⊢; omega)]
          simp only [List.length_cons]
          by_cases h : n ≤ k ∧ k < n + (ys.length + 1)
          · rw [if_pos h, if_pos (by omega)]; congr 1; omega
          · rw [if_neg h, if_neg (by omega)]

def mkE : List AV → AV
  | [v] => match isCell v with
    | true => v
    | false => .agg [v]
  | l => .agg l
theorem mkE_cells (l : List AV) : (mkE l).cells = l := by
  cases l with
  | nil => rfl
  | cons v r =>
    cases r with
    | nil =>
      show (match isCell v with | true => v | false => AV.agg [v]).cells = [v]
      cases hc : isCell v with
      | false => rfl
      | true => cases v <;> first | rfl | simp [isCell] at hc
    | cons u r => rfl

/- A value that is written. -/
def storeAV (P : Program) (S : Sto) (t : TypeId) (p v : AV) : Option Sto :=
  match p with
  | .ptr id i j => match S.get id with
    | some (.arr sz es) => match nth es i with
      | some e => match szT P t with
        | some n => match Nat.beq v.cells.length n && Nat.ble (j + n) e.cells.length && v.cells.all isCell && Nat.ble S.lim id with
          | true => some (S.set id (.arr sz (es.set i (mkE (setL e.cells j v.cells)))))
          | false => none
        | none => none
      | none => none
    | _ => none
  | _ => none

theorem VRs_cells {g : Gh} {v : AV} {x : Value} (h : VR g v x) (hc : v.cells.all isCell = true) : VRs g v.cells x.cells := by
  have one : ∀ {u : AV} {y : Value}, VR g u y → VRs g [u] #[y] := by
    intro u y hu
    exact VRs.cons (xs := []) hu ⟨rfl, by simp⟩
  cases h with
  | agg hl h => exact ⟨hl, h⟩
  | sc h =>
    have : Value.cells x = #[x] := by cases x <;> first | rfl | simp [isSc] at h
    rw [this]; exact one (.sc h)
  | tup hl h => simp [AV.cells, isCell] at hc
  | top => simp [AV.cells, isCell] at hc
  | nils => exact one .nils
  | nilS => exact one .nilS
  | srefz => exact one .srefz
  | lit a b c d e => exact one (.lit a b c d e)
  | lit0 => exact one .lit0
  | lptr a b c => exact one (.lptr a b c)
  | ptr a => exact one (.ptr a)
  | sref a b c => exact one (.sref a b c)
  | mapr a => exact one (.mapr a)
  | fn a b c d => exact one (.fn a b c d)
  | ifc a => exact one (.ifc a)
  | clip a => exact one (.clip a)
  | yld a => exact one (.yld a)

/- Cells that are written one after the other. -/
theorem run_storeCells {P : Program} {b o : Nat} {t : TypeId} (vs : List Value) : ∀ (w : World) (c : Array Value) (i : Nat), w.heap[b]? = some (.cells c t (0, 0)) → o + i + vs.length ≤ c.size → (∀ x, x ∈ vs → x.oneCell' = true) →
    ∃ w', (storeCells ⟨b, o, none⟩ vs i).run P w = .ok () w' ∧ w'.heap[b]? = some (.cells (setL c.toList (o + i) vs).toArray t (0, 0)) ∧ (∀ k, k ≠ b → w'.heap[k]? = w.heap[k]?) ∧ w'.heap.size = w.heap.size ∧
      w'.os = w.os ∧ w'.tape = w.tape ∧ w'.output = w.output := by
  induction vs with
  | nil =>
    intro w c i h _ _
    refine ⟨w, by simp [storeCells], ?_, fun _ _ => rfl, rfl, rfl, rfl, rfl⟩
    have : setL c.toList (o + i) [] = c.toList := by cases c.toList <;> rfl
    rw [this]; simpa using h
  | cons v vs ih =>
    intro w c i h hle ho
    have hoc : o + i < c.size := by simp at hle; omega
    have hx : c[o + i]? = some c[o + i] := Array.getElem?_eq_getElem hoc
    have hc : w.cell? ⟨b, o + i, none⟩ = some c[o + i] := cell_of h hx
    have hf : w.frozen? ⟨b, o + i, none⟩ = false := by simp [World.frozen?, h]
    have hv : v.oneCell' = true := ho v (by simp)
    have hset : (w.setCell ⟨b, o + i, none⟩ v).heap[b]? = some (.cells (c.setIfInBounds (o + i) v) t (0, 0)) := by
      simp [World.setCell, Array.getElem?_modify, h]
    obtain ⟨w', h1, h2, h3, h4, h5, h6, h7⟩ := ih (w.setCell ⟨b, o + i, none⟩ v) (c.setIfInBounds (o + i) v) (i + 1) hset (by simp at hle ⊢; omega) (fun x hx => ho x (by simp [hx]))
    refine ⟨w', ?_, ?_, ?_, ?_, h5, h6, h7⟩
    · simp only [storeCells, Sem.run_bind, Addr.add_none, run_store P w _ v _ hv, hc, hf, Bool.false_eq_true, if_false, Result.andThen_ok]
      exact h1
    · rw [h2]
      congr 3
      apply List.ext_getElem?
      intro k
      rw [setL_get _ _ _ (by simp at hle ⊢; omega), setL_get _ _ _ (by simp at hle ⊢; omega)]
      simp only [Array.toList_setIfInBounds, List.getElem?_set, List.length_cons, Array.length_toList]
      by_cases hk : k = o + i
      · subst hk
        rw [if_neg (by omega), if_pos rfl, if_pos hoc, if_pos (by omega)]
        simp
      · by_cases hk2 : o + (i + 1) ≤ k ∧ k < o + (i + 1) + vs.length
        · rw [if_pos hk2, if_pos (by omega)]
          rw [show k - (o + i) = (k - (o + (i + 1))) + 1 from by omega, List.getElem?_cons_succ]
        · rw [if_neg hk2, if_neg (by omega), if_neg (by omega)]
    · intro k hk
      rw [h3 k hk]
      simp only [World.setCell, Array.getElem?_modify]
      rw [if_neg (fun e => hk e.symm)]
    · rw [h4]; simp

theorem storeAV_sound {P : Program} {S S' : Sto} {g : Gh} {w : World} (hi : Inv S g w) {p v : AV} {x y : Value} {t : TypeId} (h : storeAV P S t p v = some S') (hp : VR g p x) (hv : VR g v y) :
    ∃ w', (Instr.storeAt t x y).run P w = .ok () w' ∧ Inv S' g w' ∧ Ext S g w S' g w' := by
  unfold storeAV at h
  split at h <;> try (simp at h; done)
  rename_i id i j
  split at h <;> try (simp at h; done)
  rename_i sz es hg
  split at h <;> try (simp at h; done)
  rename_i e he
  rw [nth_eq] at he
  split at h <;> try (simp at h; done)
  rename_i n hn
  split at h <;> simp only [Option.some.injEq, reduceCtorEq] at h
  rename_i hc
  subst h
  simp only [Bool.and_eq_true] at hc
  obtain ⟨⟨⟨h1, h2⟩, h3⟩, h4⟩ := hc
  have h1 : v.cells.length = n := Nat.eq_of_beq_eq_true h1
  have h2 := Nat.le_of_ble_eq_true h2
  have h4 := Nat.le_of_ble_eq_true h4
  cases hp with
  | ptr hl =>
    rename_i l
    obtain ⟨l', q1, q2, q3⟩ := hi.ob _ _ hg
    rw [hl] at q1; simp only [Option.some.injEq] at q1; subst q1
    obtain ⟨c, t', p1, p2, p3, p4, p5, p6⟩ := q3
    have hlen := p5 e (List.mem_of_getElem? he)
    have hie : i < es.length := (List.getElem?_eq_some_iff.1 he).1
    have hmul : i * sz + sz ≤ es.length * sz := by
      have : (i + 1) * sz ≤ es.length * sz := Nat.mul_le_mul_right _ hie
      rw [Nat.succ_mul] at this; exact this
    have hcs := VRs_cells hv h3
    have hone : ∀ z, z ∈ y.cells.toList → z.oneCell' = true := by
      intro z hz
      obtain ⟨k, hk⟩ := List.getElem?_of_mem hz
      have hk' : y.cells[k]? = some z := by simpa using hk
      have hka : k < v.cells.length := by rw [hcs.1]; exact (Array.getElem?_eq_some_iff.1 hk').1
      have ha : v.cells[k]? = some v.cells[k] := List.getElem?_eq_getElem hka
      exact isCell_sound (List.all_eq_true.1 h3 _ (List.getElem_mem hka)) (hcs.2 k _ z ha hk')
    have hys : y.cells.toList.length = n := by rw [← h1, hcs.1]; simp
    obtain ⟨w', r1, r2, r3, r4, r5, r6, r7⟩ := run_storeCells (P := P) (b := l.blk) (o := l.base + i * l.sz + j) (t := t') y.cells.toList w c 0 p1 (by rw [hys, p3]; omega) hone
    refine ⟨w', ?_, ?_⟩
    · simp only [Instr.storeAt, Instr.sureAddr, Sem.run_bind, Sem.run_pure, Result.andThen_ok, storeVar, run_sizeOf hn]
      rw [if_neg (by rw [← h1, hcs.1]; simp)]
      exact r1
    · refine hi.upd hg h4 hl r4 r2 r3 r5 r6 r7 ?_
      refine ⟨_, t', rfl, ?_, p3, ?_, ?_, ?_⟩
      · simp [setL_length, p2]
      · simp [setL_length]; exact p4
      · intro e' he'
        rcases List.mem_or_eq_of_mem_set he' with hm | hm
        · exact p5 e' hm
        · subst hm; rw [mkE_cells, setL_length]; exact hlen
      · intro i' j' e' a z f1 f2 f3
        rw [List.getElem?_toArray, setL_get _ _ _ (by rw [hys, p3]; simp; omega), hys] at f3
        rw [List.getElem?_set] at f1
        by_cases hii : i = i'
        · subst hii
          rw [if_pos rfl, if_pos hie] at f1
          simp only [Option.some.injEq] at f1
          subst f1
          rw [mkE_cells, setL_get _ _ _ (by rw [h1]; exact h2), h1] at f2
          have hj' : j' < sz := by
            by_cases hc : j ≤ j' ∧ j' < j + n
            · omega
            · rw [if_neg hc] at f2; rw [← hlen]; exact (List.getElem?_eq_some_iff.1 f2).1
          by_cases hc : j ≤ j' ∧ j' < j + n
          · rw [if_pos hc] at f2
            rw [if_pos (by rw [p3]; omega)] at f3
            have e1 : l.base + i * sz + j' - (l.base + i * l.sz + j + 0) = j' - j := by rw [p3]; omega
            rw [e1] at f3
            exact hcs.2 _ a z f2 (by simpa using f3)
          · rw [if_neg hc] at f2
            rw [if_neg (by rw [p3]; omega)] at f3
            exact p6 i j' e a z he f2 (by simpa using f3)
        · rw [if_neg hii] at f1
          have hj' : j' < sz := by rw [← p5 e' (List.mem_of_getElem? f1)]; exact (List.getElem?_eq_some_iff.1 f2).1
          have hne : ¬ (l.base + i * l.sz + j + 0 ≤ l.base + i' * sz + j' ∧ l.base + i' * sz + j' < l.base + i * l.sz + j + 0 + n) := by
            rw [p3]
            rintro ⟨c1, c2⟩
            rcases Nat.lt_or_gt_of_ne hii with hlt | hlt
            · have : (i + 1) * sz ≤ i' * sz := Nat.mul_le_mul_right _ hlt
              rw [Nat.succ_mul] at this; omega
            · have : (i' + 1) * sz ≤ i * sz := Nat.mul_le_mul_right _ hlt
              rw [Nat.succ_mul] at this; omega
          rw [if_neg hne] at f3
          exact p6 i' j' e' a z f1 f2 (by simpa using f3)

end
end Go.Eng

/- Operations that make new objects, on abstract values; no conditions. -/
import Derived.Test.YtdabbamabgfeoaaGreatEngD
import Derived.Laws.BitsLemmas
namespace Go.Eng
noncomputable section

/- Values that stand in no memory. -/
def ofV0 (v : Value) : AV :=
  match isSc v with
  | true => .sc v
  | false => match v with
    | .slice none 0 0 => .nilS
    | .func f ⟨[]⟩ ⟨[]⟩ => .fn f [] []
    | _ => .top
def ofV (v : Value) : AV :=
  match v with
  | .agg cs => .agg (cs.toList.map ofV0)
  | .tuple vs => .tup (vs.toList.map ofV0)
  | v => ofV0 v
theorem ofV0_sound (g : Gh) (v : Value) : VR g (ofV0 v) v := by
  unfold ofV0
  cases h : isSc v with
  | true => exact .sc h
  | false =>
    dsimp only
    split
    · exact .nilS
    · exact .fn rfl rfl (fun k a x e => by simp at e) (fun k a x e => by simp at e)
    · exact .top
theorem ofV_sound (g : Gh) (v : Value) : VR g (ofV v) v := by
  unfold ofV
  split
  · rename_i cs
    refine .agg (by simp) fun k a x e e' => ?_
    simp only [List.getElem?_map, Array.getElem?_toList, e', Option.map_some, Option.some.injEq] at e
    subst e; exact ofV0_sound g x
  · rename_i cs
    refine .tup (by simp) fun k a x e e' => ?_
    simp only [List.getElem?_map, Array.getElem?_toList, e', Option.map_some, Option.some.injEq] at e
    subst e; exact ofV0_sound g x
  · exact ofV0_sound g v

def zeroAV (P : Program) (t : TypeId) : Option AV :=
  match P.info? t with
  | some i => match i.zero with
    | some z => some (ofV z)
    | none => none
  | none => none
theorem zeroAV_sound {P : Program} {w : World} {g : Gh} {t : TypeId} {a : AV} (h : zeroAV P t = some a) : ∃ z, (zeroValue t).run P w = .ok z w ∧ VR g a z := by
  unfold zeroAV at h
  split at h <;> try (simp at h; done)
  rename_i i hi
  split at h <;> simp only [Option.some.injEq, reduceCtorEq] at h
  rename_i z hz
  subst h
  exact ⟨z, by simp [zeroValue, run_typeInfo' hi, hz], ofV_sound g z⟩

/- Cells of cells. -/
theorem VRs.setL {g : Gh} {l ys : List AV} {xs zs : Array Value} (h : VRs g l xs) (h' : VRs g ys zs) {n : Nat} (hn : n + ys.length ≤ l.length) : VRs g (setL l n ys) (Eng.setL xs.toList n zs.toList).toArray := by
  have h1 := h.1
  have h2 := h'.1
  refine ⟨by simp [setL_length, h1], fun k a x e e' => ?_⟩
  rw [List.getElem?_toArray, setL_get _ _ _ (by simp; omega)] at e'
  rw [setL_get _ _ _ hn] at e
  rw [show zs.toList.length = ys.length from by simp [h2]] at e'
  split at e
  · rename_i hk; rw [if_pos hk] at e'; exact h'.2 _ a x e (by simpa using e')
  · rename_i hk; rw [if_neg hk] at e'; exact h.2 _ a x e (by simpa using e')

theorem foldl_set (off : Nat) : ∀ (l : List Value) (k : Nat) (c : Array Value), off + k + l.length ≤ c.size →
    (l.zipIdx k).foldl (fun cs (x : Value × Nat) => cs.setIfInBounds (off + x.2) x.1) c = (setL c.toList (off + k) l).toArray := by
  intro l
  induction l with
  | nil => intro k c _; simp [setL]
  | cons v l ih =>
    intro k c hle
    simp only [List.zipIdx_cons, List.foldl_cons]
    rw [ih (k + 1) _ (by simp at hle ⊢; omega)]
    congr 1
    apply List.ext_getElem?
    intro i
    rw [setL_get _ _ _ (by simp at hle ⊢; omega), setL_get _ _ _ (by simp at hle ⊢; omega)]
    simp only [Array.toList_setIfInBounds, List.getElem?_set, List.length_cons, Array.length_toList]
    simp only [List.length_cons] at hle
    by_cases hi : i = off + k
    · subst hi
      rw [if_neg (by omega), if_pos rfl, if_pos (by omega), if_pos (by omega)]
      simp
    · by_cases h2 : off + (k + 1) ≤ i ∧ i < off + (k + 1) + l.length
      · rw [if_pos h2, if_pos (by omega), show i - (off + k) = (i - (off + (k + 1))) + 1 from by omega, List.getElem?_cons_succ]
      · rw [if_neg h2, if_neg (by omega), if_neg (by omega)]

/- Parts that are laid into cells. -/
def fillAV (place : Nat → Option (Nat × Nat)) : List AV → List (Nat × AV) → Option (List AV)
  | cs, [] => some cs
  | cs, (i, v) :: r => match place i with
    | some (off, size) => match Nat.beq v.cells.length size && Nat.ble (off + v.cells.length) cs.length && v.cells.all isCell with
      | true => fillAV place (setL cs off v.cells) r
      | false => none
    | none => none

inductive PartsR (g : Gh) : List (Nat × AV) → List (Nat × Value) → Prop
  | nil : PartsR g [] []
  | cons {i : Nat} {v : AV} {x : Value} {ps : List (Nat × AV)} {xs : List (Nat × Value)} (hv : VR g v x) (ht : PartsR g ps xs) : PartsR g ((i, v) :: ps) ((i, x) :: xs)

theorem fillAV_sound {g : Gh} {place : Nat → Option (Nat × Nat)} {ps : List (Nat × AV)} {xs : List (Nat × Value)} (hp : PartsR g ps xs) : ∀ {cs r : List AV} {c : Array Value}, fillAV place cs ps = some r → VRs g cs c →
    ∃ c', Instr.fill place c xs = some c' ∧ VRs g r c' := by
  induction hp with
  | nil => intro cs r c h hc; simp only [fillAV, Option.some.injEq] at h; subst h; exact ⟨c, rfl, hc⟩
  | cons hv ht ih =>
    rename_i i v y ps xs
    intro cs r c h hc
    simp only [fillAV] at h
    split at h <;> try (simp at h; done)
    rename_i off size hpl
    split at h <;> try (simp at h; done)
    rename_i hc2
    simp only [Bool.and_eq_true] at hc2
    have q1 := Nat.eq_of_beq_eq_true hc2.1.1
    have q2 := Nat.le_of_ble_eq_true hc2.1.2
    have hcs := VRs_cells hv hc2.2
    have k1 := hcs.1
    have k2 := hc.1
    obtain ⟨c', e1, e2⟩ := ih (c := (Eng.setL c.toList off y.cells.toList).toArray) h (hc.setL hcs q2)
    refine ⟨c', ?_, e2⟩
    simp only [Instr.fill, hpl]
    rw [if_neg (by simp; omega)]
    rw [← e1]
    congr 1
    have := foldl_set off y.cells.toList 0 c (by simp; omega)
    rw [Nat.add_zero] at this
    rw [← this, ← Array.foldl_toList]
    simp

def placeAV (P : Program) (t : TypeId) : Option (Nat → Option (Nat × Nat)) :=
  match P.underlying t with
  | some (.struct fs) => some fun i => match nth fs.toList i with
    | some f => match szT P f.type with
      | some n => some (f.offset, n)
      | none => none
    | none => none
  | some (.array _ el) => match szT P el with
    | some n => some fun i => some (i * n, n)
    | none => none
  | _ => none

/- All fields of a struct have a size. -/
def sizedFs (P : Program) : List Field → Bool
  | [] => true
  | f :: fs => match szT P f.type with
    | some _ => sizedFs P fs
    | none => false

def buildAV (P : Program) (t : TypeId) (ps : List (Nat × AV)) : Option AV :=
  match zeroAV P t with
  | some z => match P.underlying t with
    | some (.struct fs) => match sizedFs P fs.toList && z.cells.all isCell with
      | true => match fillAV (fun i => match nth fs.toList i with
          | some f => match szT P f.type with
            | some n => some (f.offset, n)
            | none => none
          | none => none) z.cells ps with
        | some cs => some (.agg cs)
        | none => none
      | false => none
    | some (.array _ el) => match szT P el with
      | some n => match z.cells.all isCell with
        | true => match fillAV (fun i => some (i * n, n)) z.cells ps with
          | some cs => some (.agg cs)
          | none => none
        | false => none
      | none => none
    | _ => none
  | none => none

theorem sizedFs_run {P : Program} {w : World} : ∀ {fs : List Field}, sizedFs P fs = true → (fs.mapM fun f => do pure (f.offset, ← sizeOf f.type) : Sem (List (Nat × Nat))).run P w = .ok (fs.map fun f => (f.offset, (szT P f.type).getD 0)) w := by
  intro fs
  induction fs with
  | nil => intro _; simp
  | cons f fs ih =>
    intro h
    simp only [sizedFs] at h
    split at h <;> try (simp at h; done)
    rename_i n hn
    simp only [List.mapM_cons, Sem.run_bind, run_sizeOf hn, Result.andThen_ok, Sem.run_pure, ih h, List.map_cons, hn, Option.getD_some]

theorem buildAV_sound {P : Program} {w : World} {g : Gh} {t : TypeId} {ps : List (Nat × AV)} {xs : Array (Nat × Value)} {r : AV} (h : buildAV P t ps = some r) (hp : PartsR g ps xs.toList) :
    ∃ z, (Instr.build t xs).run P w = .ok z w ∧ VR g r z := by
  unfold buildAV at h
  split at h <;> try (simp at h; done)
  rename_i z hz
  obtain ⟨zc, hzr, hzv⟩ := zeroAV_sound (P := P) (w := w) (g := g) hz
  split at h <;> try (simp at h; done)
  · rename_i fs hu
    split at h <;> try (simp at h; done)
    rename_i hb
    simp only [Bool.and_eq_true] at hb
    split at h <;> simp only [Option.some.injEq, reduceCtorEq] at h
    rename_i cs hf
    subst h
    have hplace : (fun i => match nth fs.toList i with
          | some f => match szT P f.type with
            | some n => some (f.offset, n)
            | none => none
          | none => none) = fun i => ((fs.map fun f => (f.offset, (szT P f.type).getD 0))[i]? : Option (Nat × Nat)) := by
      funext i
      rw [nth_eq]
      simp only [Array.getElem?_toList, Array.getElem?_map]
      cases hfi : fs[i]? with
      | none => rfl
      | some f =>
        simp only [Option.map_some]
        have hm : f ∈ fs.toList := List.mem_of_getElem? (by simpa using hfi : fs.toList[i]? = some f)
        have : ∃ n, szT P f.type = some n := by
          have := hb.1
          clear hf hzv hzr hz hu hfi
          generalize fs.toList = l at this hm
          induction l with
          | nil => simp at hm
          | cons a l ih =>
            simp only [sizedFs] at this
            split at this <;> try (simp at this; done)
            rename_i n hn
            rcases List.mem_cons.1 hm with rfl | hm
            · exact ⟨n, hn⟩
            · exact ih this hm
        obtain ⟨n, hn⟩ := this
        simp [hn]
    rw [hplace] at hf
    obtain ⟨c', e1, e2⟩ := fillAV_sound hp hf (VRs_cells hzv hb.2)
    refine ⟨.agg c', ?_, .agg e2.1 e2.2⟩
    simp only [Instr.build, Sem.run_bind, hzr, Result.andThen_ok, run_underlying' hu]
    have hm : (fs.mapM fun f => do pure (f.offset, ← sizeOf f.type) : Sem (Array (Nat × Nat))).run P w = .ok (fs.map fun f => (f.offset, (szT P f.type).getD 0)) w := by
      rw [Array.mapM_eq_mapM_toList]
      simp only [Sem.run_map, sizedFs_run hb.1, Result.andThen_ok]
      congr 1
      apply Array.ext'; simp
    rw [hm]
    simp only [Result.andThen_ok]
    rw [e1]
    simp
  · rename_i len el hu
    split at h <;> try (simp at h; done)
    rename_i n hn
    split at h <;> try (simp at h; done)
    rename_i hb
    split at h <;> simp only [Option.some.injEq, reduceCtorEq] at h
    rename_i cs hf
    subst h
    obtain ⟨c', e1, e2⟩ := fillAV_sound hp hf (VRs_cells hzv hb)
    refine ⟨.agg c', ?_, .agg e2.1 e2.2⟩
    simp only [Instr.build, Sem.run_bind, hzr, Result.andThen_ok, run_underlying' hu, run_sizeOf hn]
    rw [e1]
    simp

/- A new variable. -/
def boxAV (S : Sto) (v : AV) : Option (AV × Sto) :=
  match v.cells.all isCell && Nat.ble (S.nx + 1) 8192 && Nat.ble S.lim S.nx with
  | true => some (.ptr S.nx 0 0, S.add (.arr v.cells.length [v]))
  | false => none

theorem boxAV_sound {P : Program} {S S' : Sto} {g : Gh} {w : World} (hi : Inv S g w) {v r : AV} {x : Value} {t : TypeId} (h : boxAV S v = some (r, S')) (hv : VR g v x) :
    ∃ a w' g', (newVar t x).run P w = .ok a w' ∧ VR g' r (.pointer (some a)) ∧ Inv S' g' w' ∧ Ext S g w S' g' w' := by
  unfold boxAV at h
  split at h <;> simp only [Option.some.injEq, Prod.mk.injEq, reduceCtorEq] at h
  rename_i hc
  obtain ⟨rfl, rfl⟩ := h
  simp only [Bool.and_eq_true] at hc
  have c2 := Nat.le_of_ble_eq_true hc.1.2
  have c3 := Nat.le_of_ble_eq_true hc.2
  have hcs := VRs_cells hv hc.1.1
  obtain ⟨q1, q2⟩ := hi.alloc (w' := w.alloc (.cells x.cells t)) (by omega) (o := .arr v.cells.length [v]) (ob := .cells x.cells t) (l := ⟨w.heap.size, 0, v.cells.length, x.cells.size⟩) rfl
    ⟨x.cells, t, rfl, rfl, rfl, by simp [hcs.1], by simp, by
      intro i j e a y f1 f2 f3
      cases i with
      | zero =>
        simp only [List.getElem?_cons_zero, Option.some.injEq] at f1
        subst f1
        exact hcs.2 j a y f2 (by simpa using f3)
      | succ i => simp at f1⟩ rfl rfl rfl rfl c3
  refine ⟨⟨w.heap.size, 0, none⟩, _, _, ?_, ?_, q1, q2⟩
  · simp [newVar, newRow]
  · have := VR.ptr (g := g.add S.nx ⟨w.heap.size, 0, v.cells.length, x.cells.size⟩) (id := S.nx) (i := 0) (j := 0) (Gh.add_same _ _ _)
    simpa using this

/- A new array of elements that are all alike, but for some parts. -/
def setE : List AV → List (Nat × AV) → Option (List AV)
  | es, [] => some es
  | es, (i, v) :: r => match nth es i with
    | some e => match Nat.beq v.cells.length e.cells.length && v.cells.all isCell with
      | true => setE (es.set i v) r
      | false => none
    | none => none

/- Elements as cells. -/
def ElsR (g : Gh) (sz : Nat) (es : List AV) (c : Array Value) : Prop :=
  es.length * sz ≤ c.size ∧ (∀ e, e ∈ es → e.cells.length = sz) ∧ ∀ (i j : Nat) (e a : AV) (y : Value), es[i]? = some e → e.cells[j]? = some a → c[i * sz + j]? = some y → VR g a y

theorem setE_sound {g : Gh} {sz : Nat} {ps : List (Nat × AV)} {xs : List (Nat × Value)} (hp : PartsR g ps xs) : ∀ {es r : List AV} {c : Array Value}, setE es ps = some r → ElsR g sz es c →
    ∃ c', Instr.fill (fun i => some (i * sz, sz)) c xs = some c' ∧ ElsR g sz r c' ∧ c'.size = c.size ∧ r.length = es.length := by
  induction hp with
  | nil => intro es r c h hc; simp only [setE, Option.some.injEq] at h; subst h; exact ⟨c, rfl, hc, rfl, rfl⟩
  | cons hv ht ih =>
    rename_i i v y ps xs
    intro es r c h hc
    simp only [setE] at h
    split at h <;> try (simp at h; done)
    rename_i e he
    rw [nth_eq] at he
    split at h <;> try (simp at h; done)
    rename_i hb
    simp only [Bool.and_eq_true] at hb
    have q1 := Nat.eq_of_beq_eq_true hb.1
    obtain ⟨k1, k2, k3⟩ := hc
    have hcs := VRs_cells hv hb.2
    have hsz : v.cells.length = sz := by rw [q1]; exact k2 e (List.mem_of_getElem? he)
    have hie : i < es.length := (List.getElem?_eq_some_iff.1 he).1
    have hmul : i * sz + sz ≤ es.length * sz := by
      have : (i + 1) * sz ≤ es.length * sz := Nat.mul_le_mul_right _ hie
      rw [Nat.succ_mul] at this; exact this
    have hyl : y.cells.toList.length = sz := by rw [← hsz, hcs.1]; simp
    have hnew : ElsR g sz (es.set i v) (Eng.setL c.toList (i * sz) y.cells.toList).toArray := by
      refine ⟨by simp [setL_length]; exact k1, ?_, ?_⟩
      · intro e' he'
        rcases List.mem_or_eq_of_mem_set he' with hm | hm
        · exact k2 e' hm
        · subst hm; exact hsz
      · intro i2 j e2 a z f1 f2 f3
        rw [List.getElem?_toArray, setL_get _ _ _ (by rw [hyl]; simp; omega), hyl] at f3
        rw [List.getElem?_set] at f1
        by_cases hii : i = i2
        · subst hii
          rw [if_pos rfl, if_pos hie] at f1
          simp only [Option.some.injEq] at f1
          subst f1
          have hj : j < sz := by rw [← hsz]; exact (List.getElem?_eq_some_iff.1 f2).1
          rw [if_pos (by omega), show i * sz + j - i * sz = j from by omega] at f3
          exact hcs.2 j a z f2 (by simpa using f3)
        · rw [if_neg hii] at f1
          have hj : j < sz := by rw [← k2 e2 (List.mem_of_getElem? f1)]; exact (List.getElem?_eq_some_iff.1 f2).1
          have hne : ¬ (i * sz ≤ i2 * sz + j ∧ i2 * sz + j < i * sz + sz) := by
            rintro ⟨c1, c2⟩
            rcases Nat.lt_or_gt_of_ne hii with hlt | hlt
            · have : (i + 1) * sz ≤ i2 * sz := Nat.mul_le_mul_right _ hlt
              rw [Nat.succ_mul] at this; omega
            · have : (i2 + 1) * sz ≤ i * sz := Nat.mul_le_mul_right _ hlt
              rw [Nat.succ_mul] at this; omega
          rw [if_neg hne] at f3
          exact k3 i2 j e2 a z f1 f2 (by simpa using f3)
    obtain ⟨c', e1, e2, e3, e4⟩ := ih (c := (Eng.setL c.toList (i * sz) y.cells.toList).toArray) h hnew
    refine ⟨c', ?_, e2, ?_, ?_⟩
    · simp only [Instr.fill]
      have hcsz := hcs.1
      rw [if_neg (by simp; omega)]
      rw [← e1]
      congr 1
      have := foldl_set (i * sz) y.cells.toList 0 c (by simp; simp at hyl; omega)
      rw [Nat.add_zero] at this
      rw [← this, ← Array.foldl_toList]
      simp
    · rw [e3]; simp [setL_length]
    · rw [e4]; simp

theorem ElsR.alloc {S : Sto} {g : Gh} {w : World} (hi : Inv S g w) {sz : Nat} {es : List AV} {c : Array Value} (h : ElsR g sz es c) (t : TypeId) (hn : S.nx < 8192) (hl : S.lim ≤ S.nx) :
    Inv (S.add (.arr sz es)) (g.add S.nx ⟨w.heap.size, 0, sz, c.size⟩) (w.alloc (.cells c t)) ∧ Ext S g w (S.add (.arr sz es)) (g.add S.nx ⟨w.heap.size, 0, sz, c.size⟩) (w.alloc (.cells c t)) :=
  hi.alloc (w' := w.alloc (.cells c t)) hn (o := .arr sz es) (ob := .cells c t) (l := ⟨w.heap.size, 0, sz, c.size⟩) rfl
    ⟨c, t, rfl, rfl, rfl, by simpa using h.1, h.2.1, fun i j e a y f1 f2 f3 => h.2.2 i j e a y f1 f2 (by simpa using f3)⟩ rfl rfl rfl rfl hl

theorem els_zero {g : Gh} {n : Nat} {z : AV} {zc : Array Value} {m : Nat} (hz : VRs g z.cells zc) (hn : n ≤ m) : ElsR g zc.size (List.replicate n z) ((Array.range (m * zc.size)).map fun i => zc[i % zc.size]!) := by
  refine ⟨by simp; exact Nat.mul_le_mul_right _ hn, ?_, ?_⟩
  · intro e he; rw [(List.mem_replicate.1 he).2, hz.1]
  · intro i j e a y f1 f2 f3
    rw [List.getElem?_replicate] at f1
    split at f1 <;> simp only [Option.some.injEq, reduceCtorEq] at f1
    rename_i hi
    subst f1
    have hj : j < zc.size := by rw [← hz.1]; exact (List.getElem?_eq_some_iff.1 f2).1
    simp only [Array.getElem?_map] at f3
    have hlt : i * zc.size + j < m * zc.size := by
      have : (i + 1) * zc.size ≤ m * zc.size := Nat.mul_le_mul_right _ (by omega)
      rw [Nat.succ_mul] at this; omega
    rw [Array.getElem?_range, if_pos hlt] at f3
    simp only [Option.map_some, Option.some.injEq] at f3
    have hm : (i * zc.size + j) % zc.size = j := by
      rw [Nat.mul_comm, Nat.mul_add_mod]; exact Nat.mod_eq_of_lt hj
    rw [hm] at f3
    refine hz.2 j a y f2 ?_
    rw [← f3, Array.getElem?_eq_getElem hj]
    simp [getElem!_pos, hj]

def newSlice (S : Sto) (sz : Nat) (es : List AV) : Option (AV × Sto) :=
  match Nat.ble (S.nx + 1) 8192 && Nat.ble S.lim S.nx with
  | true => some (.sref S.nx 0 es.length, S.add (.arr sz es))
  | false => none

def buildSliceAV (P : Program) (S : Sto) (t : TypeId) (len : Nat) (ps : List (Nat × AV)) : Option (AV × Sto) :=
  match P.underlying t with
  | some (.slice el) => match szT P el with
    | some (n + 1) => match Nat.ble (len * (n + 1)) (2 ^ 24) with
      | true => match zeroAV P el with
        | some z => match Nat.beq z.cells.length (n + 1) && z.cells.all isCell with
          | true => match setE (List.replicate len z) ps with
            | some es => newSlice S (n + 1) es
            | none => none
          | false => none
        | none => none
      | false => none
    | _ => none
  | _ => none

theorem buildSliceAV_sound {P : Program} {S S' : Sto} {g : Gh} {w : World} (hi : Inv S g w) {t : TypeId} {len : Nat} {ps : List (Nat × AV)} {xs : Array (Nat × Value)} {r : AV} (h : buildSliceAV P S t len ps = some (r, S')) (hp : PartsR g ps xs.toList) :
    ∃ z w' g', (Instr.buildSlice t len xs).run P w = .ok z w' ∧ VR g' r z ∧ Inv S' g' w' ∧ Ext S g w S' g' w' := by
  unfold buildSliceAV at h
  split at h <;> try (simp at h; done)
  rename_i el hu
  split at h <;> try (simp at h; done)
  rename_i n hn
  simp only [Nat.succ_eq_add_one] at hn h
  split at h <;> try (simp at h; done)
  rename_i hle
  have hle := Nat.le_of_ble_eq_true hle
  split at h <;> try (simp at h; done)
  rename_i z hz
  split at h <;> try (simp at h; done)
  rename_i hb
  simp only [Bool.and_eq_true] at hb
  have hb1 := Nat.eq_of_beq_eq_true hb.1
  split at h <;> try (simp at h; done)
  rename_i es he
  unfold newSlice at h
  split at h <;> simp only [Option.some.injEq, Prod.mk.injEq, reduceCtorEq] at h
  rename_i hc
  obtain ⟨rfl, rfl⟩ := h
  simp only [Bool.and_eq_true] at hc
  have c2 := Nat.le_of_ble_eq_true hc.1
  have c3 := Nat.le_of_ble_eq_true hc.2
  obtain ⟨zc, hzr, hzv⟩ := zeroAV_sound (P := P) (w := w) (g := g) hz
  have hcs := VRs_cells hzv hb.2
  have hzs : zc.cells.size = n + 1 := by rw [← hcs.1, hb1]
  have h0 := els_zero (n := len) (m := len) hcs (Nat.le_refl _)
  rw [hzs] at h0
  obtain ⟨c', e1, e2, e3, e4⟩ := setE_sound hp he h0
  obtain ⟨q1, q2⟩ := e2.alloc hi el (by omega) c3
  have hsize : c'.size = len * (n + 1) := by rw [e3]; simp
  have hlen : es.length = len := by rw [e4]; simp
  refine ⟨.slice (some ⟨w.heap.size, 0, none⟩) len len, _, _, ?_, ?_, q1, q2⟩
  · simp only [Instr.buildSlice, Sem.run_bind, run_underlying' hu, Result.andThen_ok, run_sizeOf hn]
    rw [if_neg (by omega)]
    by_cases hlz : len * (n + 1) = 0
    · rw [if_pos hlz]
      simp only [Sem.run_bind, Sem.run_pure, Result.andThen_ok]
      have : ((Array.range (len * (n + 1))).map fun i => (#[] : Array Value)[i % (#[] : Array Value).size]!) = (Array.range (len * (n + 1))).map fun i => zc.cells[i % (n + 1)]! := by
        rw [hlz]; apply Array.ext'; simp
      rw [this, e1]
      simp [newRow]
    · rw [if_neg hlz]
      simp only [Sem.run_bind, hzr, Result.andThen_ok, Sem.run_pure, hzs]
      rw [e1]
      simp [newRow]
  · have := VR.sref (g := g.add S.nx ⟨w.heap.size, 0, n + 1, c'.size⟩) (id := S.nx) (off := 0) (len := es.length) (cap := len) (Gh.add_same _ _ _) (by omega) (by simp; omega)
    rw [hlen] at this ⊢
    simpa using this

/- make of a slice. -/
def makeSliceAV (P : Program) (S : Sto) (t : TypeId) (len cap : AV) : Option (AV × Sto) :=
  match natAV len, natAV cap, P.underlying t with
  | some l, some c, some (.slice el) => match P.info? el, zeroAV P el with
    | some i, some z => match Nat.ble l c && Nat.ble (c * (i.bytes + 1)) (2 ^ 40) && Nat.beq z.cells.length i.size && Nat.ble 1 i.size && z.cells.all isCell with
      | true => newSlice S i.size (List.replicate l z)
      | false => none
    | _, _ => none
  | _, _, _ => none

theorem wrap64_in {n : Int} (h : -9223372036854775808 ≤ n ∧ n ≤ 9223372036854775807) : IntKind.i64.wrap n = n := by rw [IntKind.wrap_i64]; omega
theorem wrap64_nat {n : Nat} (h : n < 2 ^ 62) : IntKind.i64.wrap (n : Int) = n := wrap64_in (by omega)

theorem makeSliceAV_sound {P : Program} {S S' : Sto} {g : Gh} {w : World} (hi : Inv S g w) {t : TypeId} {len cap r : AV} {x y : Value} (h : makeSliceAV P S t len cap = some (r, S')) (hx : VR g len x) (hy : VR g cap y) :
    ∃ z w' g', (Instr.makeSlice t x y).run P w = .ok z w' ∧ VR g' r z ∧ Inv S' g' w' ∧ Ext S g w S' g' w' := by
  unfold makeSliceAV at h
  split at h <;> try (simp at h; done)
  rename_i l c el hl hcap hu
  obtain ⟨k1, rfl⟩ := natAV_sound hl hx
  obtain ⟨k2, rfl⟩ := natAV_sound hcap hy
  split at h <;> try (simp at h; done)
  rename_i i z hinfo hz
  split at h <;> try (simp at h; done)
  rename_i hb
  simp only [Bool.and_eq_true] at hb
  obtain ⟨⟨⟨⟨b1, b2⟩, b3⟩, b4⟩, b5⟩ := hb
  have b1 := Nat.le_of_ble_eq_true b1
  have b2 := Nat.le_of_ble_eq_true b2
  have b3 := Nat.eq_of_beq_eq_true b3
  have b4 := Nat.le_of_ble_eq_true b4
  unfold newSlice at h
  split at h <;> simp only [Option.some.injEq, Prod.mk.injEq, reduceCtorEq] at h
  rename_i hc
  obtain ⟨rfl, rfl⟩ := h
  simp only [Bool.and_eq_true] at hc
  have c2 := Nat.le_of_ble_eq_true hc.1
  have c3 := Nat.le_of_ble_eq_true hc.2
  obtain ⟨zc, hzr, hzv⟩ := zeroAV_sound (P := P) (w := w) (g := g) hz
  have hcs := VRs_cells hzv b5
  have hzs : zc.cells.size = i.size := by rw [← hcs.1, b3]
  have h0 := els_zero (n := l) (m := c) hcs b1
  rw [hzs] at h0
  obtain ⟨q1, q2⟩ := h0.alloc hi el (by omega) c3
  have hcb : c * i.bytes ≤ 2 ^ 40 := Nat.le_trans (Nat.mul_le_mul_left c (Nat.le_succ _)) b2
  have hcc : c ≤ 2 ^ 40 := Nat.le_trans (Nat.le_mul_of_pos_right c (Nat.succ_pos _)) b2
  have w1 : IntKind.i64.wrap (Int.ofNat l) = l := wrap64_nat (by omega)
  have w2 : IntKind.i64.wrap (Int.ofNat c) = c := wrap64_nat (by omega)
  have hsz : szT P el = some i.size := by simp [szT, hinfo]
  refine ⟨.slice (some ⟨w.heap.size, 0, none⟩) l c, _, _, ?_, ?_, q1, q2⟩
  · simp only [Instr.makeSlice, Sem.run_bind, run_underlying' hu, Result.andThen_ok, asInt, asIntOf, Sem.run_pure, run_typeInfo' hinfo, w1, w2]
    have hnl : ¬ ((decide ((c : Int) < 0) || decide ((i.bytes : Int) * (c : Int) > 2 ^ 48)) || decide ((l : Int) < 0) || decide ((l : Int) > (c : Int))) = true := by
      simp only [Bool.or_eq_true, decide_eq_true_eq, not_or]
      refine ⟨⟨⟨by omega, ?_⟩, by omega⟩, by omega⟩
      have : ((i.bytes : Int) * (c : Int)) = ((c * i.bytes : Nat) : Int) := by rw [Int.natCast_mul, Int.mul_comm]
      rw [this]; omega
    rw [if_neg hnl]
    simp only [Sem.run_bind, run_askRoom, Result.andThen_ok, run_sizeOf hsz, Int.toNat_natCast]
    by_cases hlz : c * i.size = 0
    · rw [if_pos hlz]
      simp only [Sem.run_bind, Sem.run_pure, Result.andThen_ok]
      have : ((Array.range (c * i.size)).map fun k => (#[] : Array Value)[k % (#[] : Array Value).size]!) = (Array.range (c * i.size)).map fun k => zc.cells[k % i.size]! := by
        rw [hlz]; apply Array.ext'; simp
      rw [this]
      simp [newRow]
    · rw [if_neg hlz]
      simp only [Sem.run_bind, hzr, Result.andThen_ok, Sem.run_pure, hzs]
      simp [newRow]
  · have := VR.sref (g := g.add S.nx ⟨w.heap.size, 0, i.size, c * i.size⟩) (id := S.nx) (off := 0) (len := l) (cap := c) (Gh.add_same _ _ _) b1 (by simp)
    simpa using this

end
end Go.Eng

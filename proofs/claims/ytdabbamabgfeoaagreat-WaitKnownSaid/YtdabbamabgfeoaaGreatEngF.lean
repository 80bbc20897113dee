/- append, copy and len on abstract values; no conditions. -/
import Derived.Test.YtdabbamabgfeoaaGreatEngE
namespace Go.Eng
noncomputable section

/- The elements of a slice. -/
def elsAV0 (S : Sto) : AV → Option (List AV)
  | .lit es => some es
  | .sref id off len => match S.get id with
    | some (.arr _ es) => match Nat.ble (off + len) es.length with
      | true => some ((es.drop off).take len)
      | false => none
    | _ => none
  | .nilS => some []
  | .nils => some []
  | _ => none

def elsAV (S : Sto) : AV → Option (List AV)
  | .clip v => elsAV0 S v
  | v => elsAV0 S v

def sized (n : Nat) (es : List AV) : Bool := es.all fun e => Nat.beq e.cells.length n && e.cells.all isCell

theorem sized_get {n : Nat} {es : List AV} (h : sized n es = true) {e : AV} (he : e ∈ es) : e.cells.length = n ∧ e.cells.all isCell = true := by
  have := List.all_eq_true.1 h e he
  simp only [Bool.and_eq_true] at this
  exact ⟨Nat.eq_of_beq_eq_true this.1, this.2⟩

theorem els0_sound {P : Program} {S : Sto} {g : Gh} {w : World} (hi : Inv S g w) {x : AV} {y : Value} {es : List AV} {n : Nat} (h : elsAV0 S x = some es) (hv : VR g x y) (hs : sized n es = true) :
    ∃ a cap cs, y = .slice a es.length cap ∧ es.length ≤ cap ∧ (∀ w', w'.heap = w.heap → (Builtin.firstCells n es.length y).run P w' = .ok cs w') ∧ ElsR g n es cs ∧ cs.size = es.length * n := by
  have zero : ∀ (a : Option Addr) (cap : Nat) (w' : World), w'.heap = w.heap → (Builtin.firstCells n 0 (.slice a 0 cap)).run P w' = .ok #[] w' := by
    intro a cap w' _
    cases a with
    | none => simp [Builtin.firstCells]
    | some a => simp [Builtin.firstCells, loadCells, loadCellsFrom]
  have e0 : ElsR g n [] #[] := ⟨by simp, by simp, by simp⟩
  unfold elsAV0 at h
  split at h <;> try (simp at h; done)
  · simp only [Option.some.injEq] at h; subst h
    cases hv with
    | lit0 => exact ⟨_, _, #[], rfl, Nat.zero_le _, zero _ _, e0, by simp⟩
    | lit hr hs' hb hcap hh =>
      rename_i es b o sz cap c
      by_cases hz : es = []
      · subst hz; exact ⟨_, cap, #[], rfl, Nat.zero_le _, zero _ _, e0, by simp⟩
      · have hsz : n = sz := by
          obtain ⟨e, he⟩ := List.exists_mem_of_ne_nil _ hz
          rw [← hs' e he, (sized_get hs he).1]
        subst hsz
        obtain ⟨t, fz, hc⟩ := hi.ro _ _ hr
        refine ⟨_, cap, c.extract o (o + es.length * n), rfl, hcap, ?_, ⟨by simp; omega, hs', ?_⟩, by simp; omega⟩
        · intro w' hw'
          simp only [Builtin.firstCells]
          rw [run_loadCells (by rw [hw']; exact hc) hb]
        · intro i j e a z f1 f2 f3
          rw [Array.getElem?_extract] at f3
          split at f3
          · exact hh i j e a z f1 f2 (by rw [← f3]; congr 1; omega)
          · simp at f3
  · rename_i id off len
    split at h <;> try (simp at h; done)
    rename_i sz es' hg
    split at h <;> simp only [Option.some.injEq, reduceCtorEq] at h
    rename_i hle
    have hle := Nat.le_of_ble_eq_true hle
    subst h
    have hlen : ((es'.drop off).take len).length = len := by simp; omega
    cases hv with
    | srefz => simp only [List.take_zero] at *; exact ⟨_, _, #[], rfl, Nat.le_refl _, zero _ _, e0, by simp⟩
    | sref hl hcap hb =>
      rename_i cap l
      obtain ⟨l', q1, q2, q3⟩ := hi.ob _ _ hg
      rw [hl] at q1; simp only [Option.some.injEq] at q1; subst q1
      obtain ⟨c, t', p1, p2, p3, p4, p5, p6⟩ := q3
      rw [hlen]
      by_cases hz : len = 0
      · subst hz; simp only [List.take_zero] at *; exact ⟨_, cap, #[], rfl, Nat.zero_le _, zero _ _, e0, by simp⟩
      · have hsz : n = sz := by
          have hne : (es'.drop off).take len ≠ [] := by intro e; rw [e] at hlen; simp at hlen; omega
          obtain ⟨e, he⟩ := List.exists_mem_of_ne_nil _ hne
          rw [← p5 e (List.mem_of_mem_drop (List.mem_of_mem_take he)), (sized_get hs he).1]
        subst hsz
        have hb1 : l.base + off * l.sz + len * n ≤ c.size := by
          rw [p3]
          have : (off + len) * n ≤ es'.length * n := Nat.mul_le_mul_right _ hle
          rw [Nat.add_mul] at this; omega
        refine ⟨_, cap, c.extract (l.base + off * l.sz) (l.base + off * l.sz + len * n), rfl, hcap, ?_, ⟨by rw [hlen]; simp; omega, ?_, ?_⟩, by simp; omega⟩
        · intro w' hw'
          simp only [Builtin.firstCells]
          rw [run_loadCells (by rw [hw']; exact p1) hb1]
        · intro e he; exact p5 e (List.mem_of_mem_drop (List.mem_of_mem_take he))
        · intro i j e a z f1 f2 f3
          rw [List.getElem?_take] at f1
          split at f1
          · rw [List.getElem?_drop] at f1
            rw [Array.getElem?_extract] at f3
            split at f3
            · refine p6 (off + i) j e a z f1 f2 ?_
              rw [← f3]; congr 1; rw [p3, Nat.add_mul]; omega
            · simp at f3
          · simp at f1
  · simp only [Option.some.injEq] at h; subst h
    cases hv with | nilS => exact ⟨_, _, #[], rfl, Nat.le_refl _, zero _ _, e0, by simp⟩
  · simp only [Option.some.injEq] at h; subst h
    cases hv with | nils => exact ⟨_, _, #[], rfl, Nat.le_refl _, zero _ _, e0, by simp⟩

theorem els_sound {P : Program} {S : Sto} {g : Gh} {w : World} (hi : Inv S g w) {x : AV} {y : Value} {es : List AV} {n : Nat} (h : elsAV S x = some es) (hv : VR g x y) (hs : sized n es = true) :
    ∃ a cap cs, y = .slice a es.length cap ∧ es.length ≤ cap ∧ (∀ w', w'.heap = w.heap → (Builtin.firstCells n es.length y).run P w' = .ok cs w') ∧ ElsR g n es cs ∧ cs.size = es.length * n := by
  unfold elsAV at h
  split at h
  · cases hv with | clip hv => ?_
    obtain ⟨a, cap, cs, e1, e2, e3, e4, e5⟩ := els0_sound (P := P) hi h hv hs
    simp only [Value.slice.injEq] at e1
    obtain ⟨rfl, rfl, rfl⟩ := e1
    refine ⟨_, _, cs, rfl, Nat.le_refl _, fun w' hw => ?_, e4, e5⟩
    have := e3 w' hw
    rename_i a0 c0
    cases a0 <;> exact this
  · exact els0_sound hi h hv hs

theorem ElsR.append {g : Gh} {n : Nat} {es fs : List AV} {c d : Array Value} (h : ElsR g n es c) (h' : ElsR g n fs d) (hc : c.size = es.length * n) : ElsR g n (es ++ fs) (c ++ d) := by
  obtain ⟨a1, a2, a3⟩ := h
  obtain ⟨b1, b2, b3⟩ := h'
  refine ⟨?_, ?_, ?_⟩
  · simp only [List.length_append, Array.size_append, Nat.add_mul]; omega
  · intro e he; rcases List.mem_append.1 he with k | k
    · exact a2 e k
    · exact b2 e k
  · intro i j e a y f1 f2 f3
    by_cases hi : i < es.length
    · rw [List.getElem?_append_left hi] at f1
      have hj : j < n := by rw [← a2 e (List.mem_of_getElem? f1)]; exact (List.getElem?_eq_some_iff.1 f2).1
      have : i * n + n ≤ es.length * n := by
        have : (i + 1) * n ≤ es.length * n := Nat.mul_le_mul_right _ hi
        rw [Nat.succ_mul] at this; exact this
      rw [Array.getElem?_append_left (by omega)] at f3
      exact a3 i j e a y f1 f2 f3
    · rw [List.getElem?_append_right (by omega)] at f1
      have hge : es.length * n ≤ i * n := Nat.mul_le_mul_right _ (by omega)
      rw [Array.getElem?_append_right (by omega)] at f3
      refine b3 _ j e a y f1 f2 ?_
      rw [← f3]; congr 1; rw [Nat.sub_mul, hc]; omega

theorem ElsR.more {g : Gh} {n : Nat} {es : List AV} {c : Array Value} (h : ElsR g n es c) (d : Array Value) (hc : c.size = es.length * n) : ElsR g n es (c ++ d) := by
  have := h.append (fs := []) (d := d) ⟨by simp, by simp, by simp⟩ hc
  simpa using this

theorem ElsR.mono {g g' : Gh} (hg : Gh.le g g') {n : Nat} {es : List AV} {c : Array Value} (h : ElsR g n es c) : ElsR g' n es c := ⟨h.1, h.2.1, fun i j e a y f1 f2 f3 => (h.2.2 i j e a y f1 f2 f3).mono hg⟩

theorem growBy_le (newLen B : Nat) (hB : newLen + (newLen + 768) / 4 ≤ B) : ∀ (r c : Nat), c ≤ B → Builtin.growBy newLen r c ≤ B := by
  intro r
  induction r with
  | zero => intro c h; exact h
  | succ r ih =>
    intro c h
    simp only [Builtin.growBy]
    split
    · exact h
    · exact ih _ (by omega)
theorem nextslicecap_le (need old : Nat) (h : old < need) : Builtin.nextslicecap need old ≤ 2 * need + 768 := by
  unfold Builtin.nextslicecap
  split
  · omega
  · split
    · omega
    · exact growBy_le need _ (by omega) 4 old (by omega)

/- Inv does not look at how much was drawn. -/
theorem Inv.world {S : Sto} {g : Gh} {w w' : World} (h : Inv S g w) (hh : w'.heap = w.heap) : Inv S g w' :=
  ⟨fun b c e => by rw [hh]; exact h.ro b c e, fun id o e => by obtain ⟨l, a, b, c⟩ := h.ob id o e; exact ⟨l, a, b, by rw [hh]; exact c⟩, h.inj, h.fresh⟩
theorem Ext.world {S : Sto} {g : Gh} {w w' : World} (hh : w'.heap = w.heap) (ho : w'.os = w.os) (ht : w'.tape = w.tape) (hu : w'.output = w.output) : Ext S g w S g w' :=
  ⟨by rw [hh]; exact Nat.le_refl _, ho, ht, hu, fun b _ _ => by rw [hh], fun id o l h h1 h2 _ => ⟨id, o, l, h, h1, h2, rfl⟩, Gh.le_refl _, Nat.le_refl _, rfl, fun _ _ => rfl, fun _ _ => rfl, fun _ _ e _ => .inl e, fun _ _ e => e, fun a => by unfold World.frozen?; rw [hh]⟩

/- append. -/
def appendAV (P : Program) (S : Sto) (ts : List TypeId) (s x : AV) : Option (AV × Sto) :=
  match ts with
  | st :: xt :: _ => match P.underlying st, P.underlying xt with
    | some (.slice el), some (.slice _) => match P.info? el, zeroAV P el, elsAV S x with
      | some i, some z, some xs => match sized i.size xs && Nat.ble 1 i.size && Nat.ble i.bytes 4096 && Nat.beq z.cells.length i.size && z.cells.all isCell with
        | true => match xs with
          | [] => match elsAV S s with
            | some es => match sized i.size es with
              | true => some (s, S)
              | false => none
            | none => none
          | _ :: _ => match s with
            | .nilS => match Nat.ble xs.length 1048576 with
              | true => newSlice S i.size xs
              | false => none
            | .nils => match Nat.ble xs.length 1048576 with
              | true => newSlice S i.size xs
              | false => none
            | .sref id _ _ => match S.get id, elsAV S s with
              | some (.arr sz _), some es => match Nat.ble (es.length + xs.length) 1048576 && sized i.size es && Nat.ble S.lim id && Nat.beq sz i.size with
                | true => newSlice (S.del id) i.size (es ++ xs)
                | false => none
              | _, _ => none
            | .clip _ => match elsAV S s with
              | some es => match Nat.ble (es.length + xs.length) 1048576 && sized i.size es with
                | true => newSlice S i.size (es ++ xs)
                | false => none
              | none => none
            | _ => none
        | false => none
      | _, _, _ => none
    | _, _ => none
  | _ => none

theorem run_append_grow {P : Program} {w : World} {st xt el e2 : TypeId} {i : TypeInfo} {z : Value} {ts : List TypeId} {base : Option Addr} {sLen sCap n : Nat} {x : Value} {old new : Array Value} {t : TypeId}
    (hs : P.underlying st = some (.slice el)) (hxt : P.underlying xt = some (.slice e2)) (hi : P.info? el = some i) (hz : i.zero = some z) (hb : i.bytes ≤ 4096) (hneed : sLen + n ≤ 2097152) (hcap : sCap < sLen + n)
    (hlen : (Builtin.lenOf x).run P w = .ok n w) (ho : ∀ w', w'.heap = w.heap → (Builtin.firstCells i.size sLen (.slice base sLen sCap)).run P w' = .ok old w') (hn : ∀ w', w'.heap = w.heap → (Builtin.firstCells i.size n x).run P w' = .ok new w') :
    ∃ w' cap, (Builtin.append_ (st :: xt :: ts).toArray t #[.slice base sLen sCap, x]).run P w = .ok (.slice (some ⟨w.heap.size, 0, none⟩) (sLen + n) cap) w' ∧ sLen + n ≤ cap ∧
      w'.heap = w.heap.push (.cells (old ++ new ++ Builtin.zeroCells z.cells (cap - (sLen + n))) el) ∧ w'.os = w.os ∧ w'.tape = w.tape ∧ w'.output = w.output := by
  have hsz : szT P el = some i.size := by simp [szT, hi]
  have hbig : ¬ (((sLen + n : Nat) : Int) > IntKind.i64.max ∧ (False ∨ i.bytes = 0)) := by
    have : IntKind.i64.max = 9223372036854775807 := by decide
    omega
  have hnext : ¬ (Builtin.nextslicecap (sLen + n) sCap * i.bytes > 2 ^ 48) := by
    have h1 := nextslicecap_le (sLen + n) sCap hcap
    have h2 : Builtin.nextslicecap (sLen + n) sCap * i.bytes ≤ (2 * 2097152 + 768) * 4096 := Nat.mul_le_mul (by omega) hb
    omega
  refine ⟨(w.drew).alloc (.cells (old ++ new ++ Builtin.zeroCells z.cells (Question.cut (.appendCap (sLen + n) sCap el) (w.tape w.drawn (.appendCap (sLen + n) sCap el)) - (sLen + n))) el),
    Question.cut (.appendCap (sLen + n) sCap el) (w.tape w.drawn (.appendCap (sLen + n) sCap el)), ?_, Nat.le_add_right _ _, rfl, rfl, rfl, rfl⟩
  have ho' := ho w.drew rfl
  have hn' := hn w.drew rfl
  have hzero : (zeroValue el).run P w.drew = .ok z w.drew := by simp [zeroValue, run_typeInfo' hi, hz]
  simp only [Builtin.append_, Sem.run_bind, List.getElem?_toArray, List.getElem?_cons_zero, List.getElem?_cons_succ, run_underlying' hs, run_underlying' hxt, Result.andThen_ok, run_sizeOf hsz, Sem.run_pure,
    Bool.false_eq_true, if_false, hlen]
  rw [if_neg (by omega)]
  simp only [Sem.run_bind, run_typeInfo' hi, Result.andThen_ok]
  rw [if_neg hbig]
  simp only [Sem.run_bind, run_typeInfo' hi, Result.andThen_ok]
  rw [if_neg hnext]
  simp only [Sem.run_bind, run_choose, Question.forced, Bool.false_eq_true, if_false, Result.andThen_ok, run_typeInfo' hi, run_askRoom, World.drew_eq, ho', hn', Bool.not_false, if_true, hzero, newRow, run_newObj, Sem.run_pure]
  rfl

theorem run_append_fits {P : Program} {w w' : World} {st xt el e2 : TypeId} {i : TypeInfo} {ts : List TypeId} {a : Addr} {sLen sCap n : Nat} {x : Value} {new : Array Value} {t : TypeId}
    (hs : P.underlying st = some (.slice el)) (hxt : P.underlying xt = some (.slice e2)) (hi : P.info? el = some i) (hcap : sLen + n ≤ sCap)
    (hlen : (Builtin.lenOf x).run P w = .ok n w) (hn : (Builtin.firstCells i.size n x).run P w = .ok new w) (hst : (storeCells (a.add (sLen * i.size)) new.toList).run P w = .ok () w') :
    (Builtin.append_ (st :: xt :: ts).toArray t #[.slice (some a) sLen sCap, x]).run P w = .ok (.slice (some a) (sLen + n) sCap) w' := by
  have hsz : szT P el = some i.size := by simp [szT, hi]
  simp only [Builtin.append_, Sem.run_bind, List.getElem?_toArray, List.getElem?_cons_zero, List.getElem?_cons_succ, run_underlying' hs, run_underlying' hxt, Result.andThen_ok, run_sizeOf hsz, Sem.run_pure,
    Bool.false_eq_true, if_false, hlen]
  rw [if_pos hcap]
  simp only [Sem.run_bind, Bool.not_false, if_true, hn, Result.andThen_ok, hst, Sem.run_pure]

theorem run_append_none {P : Program} {w : World} {st xt el e2 : TypeId} {i : TypeInfo} {ts : List TypeId} {b : Option Addr} {sLen sCap : Nat} {x : Value} {t : TypeId}
    (hs : P.underlying st = some (.slice el)) (hxt : P.underlying xt = some (.slice e2)) (hi : P.info? el = some i) (hcap : sLen ≤ sCap)
    (hlen : (Builtin.lenOf x).run P w = .ok 0 w) (hn : (Builtin.firstCells i.size 0 x).run P w = .ok #[] w) :
    (Builtin.append_ (st :: xt :: ts).toArray t #[.slice b sLen sCap, x]).run P w = .ok (.slice b sLen sCap) w := by
  have hsz : szT P el = some i.size := by simp [szT, hi]
  simp only [Builtin.append_, Sem.run_bind, List.getElem?_toArray, List.getElem?_cons_zero, List.getElem?_cons_succ, run_underlying' hs, run_underlying' hxt, Result.andThen_ok, run_sizeOf hsz, Sem.run_pure,
    Bool.false_eq_true, if_false, hlen, Nat.add_zero]
  rw [if_pos hcap]
  cases b with
  | none => simp only [Sem.run_bind, Bool.not_false, if_true, hn, Result.andThen_ok, Sem.run_pure]
  | some a => simp only [Sem.run_bind, Bool.not_false, if_true, hn, Result.andThen_ok, Sem.run_pure, storeCells]

/- What a grown slice comes to. -/
theorem grown_sound {S S' : Sto} {g : Gh} {w w1 : World} (hi : Inv S g w) {sz : Nat} {es : List AV} {c d : Array Value} {el : TypeId} {r : AV} {cap : Nat} {zs : Nat} (h : newSlice S sz es = some (r, S'))
    (hc : ElsR g sz es c) (hcs : c.size = es.length * sz) (hd : d.size = (cap - es.length) * sz) (hcap : es.length ≤ cap)
    (hh : w1.heap = w.heap.push (.cells (c ++ d) el)) (ho : w1.os = w.os) (ht : w1.tape = w.tape) (hu : w1.output = w.output) (hz : zs = w.heap.size) :
    ∃ g', VR g' r (.slice (some ⟨zs, 0, none⟩) es.length cap) ∧ Inv S' g' w1 ∧ Ext S g w S' g' w1 := by
  subst hz
  unfold newSlice at h
  split at h <;> simp only [Option.some.injEq, Prod.mk.injEq, reduceCtorEq] at h
  rename_i hb
  obtain ⟨rfl, rfl⟩ := h
  simp only [Bool.and_eq_true] at hb
  have c2 := Nat.le_of_ble_eq_true hb.1
  have c3 := Nat.le_of_ble_eq_true hb.2
  have hm := hc.more d hcs
  obtain ⟨q1, q2⟩ := hi.alloc (w' := w1) (by omega) (o := .arr sz es) (ob := .cells (c ++ d) el) (l := ⟨w.heap.size, 0, sz, (c ++ d).size⟩) rfl
    ⟨c ++ d, el, rfl, rfl, rfl, by simpa using hm.1, hm.2.1, fun i j e a y f1 f2 f3 => hm.2.2 i j e a y f1 f2 (by simpa using f3)⟩ hh ho ht hu c3
  refine ⟨_, ?_, q1, q2⟩
  have := VR.sref (g := g.add S.nx ⟨w.heap.size, 0, sz, (c ++ d).size⟩) (id := S.nx) (off := 0) (len := es.length) (cap := cap) (Gh.add_same _ _ _) hcap
    (by simp [hcs, hd]; rw [← Nat.add_mul]; exact Nat.le_of_eq (by congr 1; omega))
  simpa using this

/- append of as many zeros to a nil slice. -/
def appendZ (P : Program) (S : Sto) (ts : List TypeId) (s x : AV) : Option (AV × Sto) :=
  match ts with
  | st :: xt :: _ => match P.underlying st, P.underlying xt, s, x with
    | some (.slice el), some (.int _), .nilS, .sc (.int .i64 (.ofNat n)) => match P.info? el, zeroAV P el with
      | some i, some z => match Nat.ble 1 n && Nat.ble n 1048576 && Nat.ble 1 i.size && Nat.ble i.bytes 4096 && Nat.beq z.cells.length i.size && z.cells.all isCell with
        | true => newSlice S i.size (List.replicate n z)
        | false => none
      | _, _ => none
    | _, _, _, _ => none
  | _ => none

theorem run_append_zeros {P : Program} {w : World} {st xt el : TypeId} {ik : IntKind} {i : TypeInfo} {z : Value} {ts : List TypeId} {n : Nat} {k : IntKind} {t : TypeId}
    (hs : P.underlying st = some (.slice el)) (hxt : P.underlying xt = some (.int ik)) (hi : P.info? el = some i) (hz : i.zero = some z) (hb : i.bytes ≤ 4096) (h1 : 1 ≤ n) (h2 : n ≤ 1048576) (h3 : 1 ≤ i.size) :
    ∃ w' cap, (Builtin.append_ (st :: xt :: ts).toArray t #[.slice none 0 0, .int k n]).run P w = .ok (.slice (some ⟨w.heap.size, 0, none⟩) n cap) w' ∧ n ≤ cap ∧
      w'.heap = w.heap.push (.cells (Builtin.zeroCells z.cells n ++ Builtin.zeroCells z.cells (cap - n)) el) ∧ w'.os = w.os ∧ w'.tape = w.tape ∧ w'.output = w.output := by
  have hsz : szT P el = some i.size := by simp [szT, hi]
  have hw : IntKind.i64.wrap (n : Int) = n := wrap64_nat (by omega)
  have hbytes : n * i.bytes ≤ 1048576 * 4096 := Nat.mul_le_mul h2 hb
  have hbig0 : ¬ ((n : Int) * (i.bytes : Int) > 2 ^ 48) := by
    have h := Int.ofNat_le.2 hbytes
    rw [Int.natCast_mul] at h
    omega
  have hbig : ¬ (((0 + n : Nat) : Int) > IntKind.i64.max ∧ (True ∨ i.bytes = 0)) := by
    have : IntKind.i64.max = 9223372036854775807 := by decide
    omega
  have hnext : ¬ (Builtin.nextslicecap (0 + n) 0 * i.bytes > 2 ^ 48) := by
    have h1 := nextslicecap_le (0 + n) 0 (by omega)
    have h2 : Builtin.nextslicecap (0 + n) 0 * i.bytes ≤ (2 * 1048576 + 768) * 4096 := Nat.mul_le_mul (by omega) hb
    omega
  have hnz : ¬ (n * i.size = 0) := by
    have : 1 * 1 ≤ n * i.size := Nat.mul_le_mul h1 h3
    omega
  refine ⟨(w.drew).alloc (.cells (Builtin.zeroCells z.cells n ++ Builtin.zeroCells z.cells (Question.cut (.appendCap (0 + n) 0 el) (w.tape w.drawn (.appendCap (0 + n) 0 el)) - n)) el),
    Question.cut (.appendCap (0 + n) 0 el) (w.tape w.drawn (.appendCap (0 + n) 0 el)), ?_, Nat.le_trans (show n ≤ 0 + n by omega) (Nat.le_add_right _ _), rfl, rfl, rfl, rfl⟩
  have hzero : (zeroValue el).run P w.drew = .ok z w.drew := by simp [zeroValue, run_typeInfo' hi, hz]
  have hai : (asInt (.int k (n : Int))).run P w = .ok (n : Int) w := rfl
  simp only [Builtin.append_, Sem.run_bind, List.getElem?_toArray, List.getElem?_cons_zero, List.getElem?_cons_succ, run_underlying' hs, run_underlying' hxt, Result.andThen_ok, run_sizeOf hsz, Sem.run_pure,
    if_true, hai, hw]
  rw [if_neg (by omega)]
  simp only [Sem.run_bind, run_typeInfo' hi, Result.andThen_ok]
  rw [if_neg hbig0]
  simp only [Sem.run_bind, Sem.run_pure, Result.andThen_ok, Int.toNat_natCast]
  rw [if_neg (by omega)]
  simp only [Sem.run_bind, run_typeInfo' hi, Result.andThen_ok]
  rw [if_neg hbig]
  simp only [Sem.run_bind, run_typeInfo' hi, Result.andThen_ok]
  rw [if_neg hnext]
  simp only [Sem.run_bind, run_choose, Question.forced, Bool.false_eq_true, if_false, Result.andThen_ok, run_typeInfo' hi, run_askRoom, World.drew_eq, Builtin.firstCells, Sem.run_pure, Bool.not_true, hnz, hzero, newRow, run_newObj, Nat.zero_add, Array.empty_append]
  rfl

theorem appendZ_sound {P : Program} {S S' : Sto} {g : Gh} {w : World} (hi : Inv S g w) {ts : List TypeId} {t : TypeId} {s x r : AV} {sv xv : Value} (h : appendZ P S ts s x = some (r, S')) (hs : VR g s sv) (hx : VR g x xv) :
    ∃ z w' g', (Builtin.append_ ts.toArray t #[sv, xv]).run P w = .ok z w' ∧ VR g' r z ∧ Inv S' g' w' ∧ Ext S g w S' g' w' := by
  unfold appendZ at h
  split at h <;> try (simp at h; done)
  rename_i st xt ts
  split at h <;> try (simp at h; done)
  rename_i el ik n hst hxt
  split at h <;> try (simp at h; done)
  rename_i i z hinfo hz
  split at h <;> try (simp at h; done)
  rename_i hb
  simp only [Bool.and_eq_true] at hb
  obtain ⟨⟨⟨⟨⟨b1, b2⟩, b3⟩, b4⟩, b5⟩, b6⟩ := hb
  have b1 := Nat.le_of_ble_eq_true b1
  have b2 := Nat.le_of_ble_eq_true b2
  have b3 := Nat.le_of_ble_eq_true b3
  have b4 := Nat.le_of_ble_eq_true b4
  have b5 := Nat.eq_of_beq_eq_true b5
  obtain ⟨zv, hzi, hzv⟩ : ∃ zv, i.zero = some zv ∧ VR g z zv := by
    unfold zeroAV at hz
    rw [hinfo] at hz
    simp only at hz
    split at hz <;> simp only [Option.some.injEq, reduceCtorEq] at hz
    rename_i zv e; subst hz; exact ⟨zv, e, ofV_sound g zv⟩
  have hzr := VRs_cells hzv b6
  have hzs : zv.cells.size = i.size := by rw [← hzr.1, b5]
  cases hs with | nilS => ?_
  cases hx with | sc _ => ?_
  obtain ⟨w', cap, r1, r2, r3, r4, r5, r6⟩ := run_append_zeros (P := P) (w := w) (ts := ts) (k := .i64) (t := t) hst hxt hinfo hzi b4 b1 b2 b3
  have hE := els_zero (n := n) (m := n) hzr (Nat.le_refl _)
  rw [hzs] at hE
  obtain ⟨g', v1, v2, v3⟩ := grown_sound (w1 := w') (el := el) (cap := cap) (c := Builtin.zeroCells zv.cells n) (d := Builtin.zeroCells zv.cells (cap - n)) hi h (by simpa [Builtin.zeroCells, hzs] using hE) (by simp [Builtin.zeroCells, hzs]) (by simp [Builtin.zeroCells, hzs])
    (by simpa using r2) r3 r4 r5 r6 rfl
  exact ⟨_, w', g', r1, by simpa using v1, v2, v3⟩

theorem Ext.del {S : Sto} {g : Gh} {w : World} {id : Nat} (h : id < 8192) (hl : S.lim ≤ id) : Ext S g w (S.del id) g w :=
  Ext.forget (Sto.del_sub h) fun k hk => Sto.get_del_other h (by omega)

theorem appendAV_sound {P : Program} {S S' : Sto} {g : Gh} {w : World} (hi : Inv S g w) {ts : List TypeId} {t : TypeId} {s x r : AV} {sv xv : Value} (h : appendAV P S ts s x = some (r, S')) (hs : VR g s sv) (hx : VR g x xv) :
    ∃ z w' g', (Builtin.append_ ts.toArray t #[sv, xv]).run P w = .ok z w' ∧ VR g' r z ∧ Inv S' g' w' ∧ Ext S g w S' g' w' := by
  unfold appendAV at h
  split at h <;> try (simp at h; done)
  rename_i st xt ts
  split at h <;> try (simp at h; done)
  rename_i el e2 hst hxt
  split at h <;> try (simp at h; done)
  rename_i i z xs hinfo hz hxs
  split at h <;> try (simp at h; done)
  rename_i hb
  simp only [Bool.and_eq_true] at hb
  obtain ⟨⟨⟨⟨b1, b2⟩, b3⟩, b4⟩, b5⟩ := hb
  have b2 := Nat.le_of_ble_eq_true b2
  have b3 := Nat.le_of_ble_eq_true b3
  have b4 := Nat.eq_of_beq_eq_true b4
  have hsz : szT P el = some i.size := by simp [szT, hinfo]
  obtain ⟨zv, hzi, hzv⟩ : ∃ zv, i.zero = some zv ∧ VR g z zv := by
    unfold zeroAV at hz
    rw [hinfo] at hz
    simp only at hz
    split at hz <;> simp only [Option.some.injEq, reduceCtorEq] at hz
    rename_i zv e; subst hz; exact ⟨zv, e, ofV_sound g zv⟩
  have hzs : zv.cells.size = i.size := by rw [← (VRs_cells hzv b5).1, b4]
  have hzc : ∀ k, (Builtin.zeroCells zv.cells k).size = k * i.size := by intro k; simp [Builtin.zeroCells, hzs]
  obtain ⟨xa, xcap, xc, hxe, hxcap, hxr, hxE, hxsz⟩ := els_sound (P := P) hi hxs hx b1
  have hxl : ∀ w', (Builtin.lenOf xv).run P w' = .ok xs.length w' := by intro w'; rw [hxe]; rfl
  split at h
  · -- nothing comes
    split at h <;> try (simp at h; done)
    rename_i es hes
    split at h <;> simp only [Option.some.injEq, Prod.mk.injEq, reduceCtorEq] at h
    rename_i hsd
    obtain ⟨rfl, rfl⟩ := h
    obtain ⟨sa, scap, sc, hse, hsc, _, _, _⟩ := els_sound (P := P) hi hes hs hsd
    refine ⟨sv, w, g, ?_, hs, hi, Ext.refl _ _ _⟩
    rw [hse]
    refine run_append_none hst hxt hinfo hsc (hxl w) ?_
    have h0 := hxr w rfl
    simp only [List.length_nil] at h0
    rw [h0]
    have : xc.size = 0 := by rw [hxsz]; simp
    rw [Array.eq_empty_of_size_eq_zero this]
  · rename_i x0 xr
    have grow : ∀ (S0 : Sto) (es : List AV) (sb : Option Addr) (scap : Nat) (sc : Array Value), Inv S0 g w → newSlice S0 i.size (es ++ x0 :: xr) = some (r, S') → (es ++ x0 :: xr).length ≤ 1048576 → scap < es.length + (x0 :: xr).length →
        (∀ w', w'.heap = w.heap → (Builtin.firstCells i.size es.length (.slice sb es.length scap)).run P w' = .ok sc w') → ElsR g i.size es sc → sc.size = es.length * i.size →
        ∃ z w' g', (Builtin.append_ (st :: xt :: ts).toArray t #[.slice sb es.length scap, xv]).run P w = .ok z w' ∧ VR g' r z ∧ Inv S' g' w' ∧ Ext S0 g w S' g' w' := by
      intro S0 es sb scap sc hi0 hnew hle hcap hrun hE hss
      obtain ⟨w', cap, r1, r2, r3, r4, r5, r6⟩ := run_append_grow (P := P) (ts := ts) (t := t) hst hxt hinfo hzi b3 (by simp at hle ⊢; omega) hcap (hxl w) hrun hxr
      obtain ⟨g', v1, v2, v3⟩ := grown_sound (w1 := w') (el := el) (cap := cap) hi0 hnew (hE.append hxE hss) (by simp [hss, hxsz, Nat.add_mul]) (d := Builtin.zeroCells zv.cells (cap - (es.length + (x0 :: xr).length)))
        (by rw [hzc]; simp) (by simp at r2 ⊢; omega) r3 r4 r5 r6 rfl
      exact ⟨_, w', g', r1, by simpa using v1, v2, v3⟩
    split at h <;> try (simp at h; done)
    · split at h <;> try (simp at h; done)
      rename_i hle
      have hle := Nat.le_of_ble_eq_true hle
      cases hs with | nilS => ?_
      exact grow S [] none 0 #[] hi (by simpa using h) (by simpa using hle) (by simp) (by intro w' _; simp [Builtin.firstCells]) ⟨by simp, by simp, by simp⟩ (by simp)
    · split at h <;> try (simp at h; done)
      rename_i hle
      have hle := Nat.le_of_ble_eq_true hle
      cases hs with | nils => ?_
      rename_i a
      refine grow S [] a 0 #[] hi (by simpa using h) (by simpa using hle) (by simp) ?_ ⟨by simp, by simp, by simp⟩ (by simp)
      intro w' _; cases a <;> simp [Builtin.firstCells, loadCells, loadCellsFrom]
    · rename_i id off len
      split at h <;> try (simp at h; done)
      rename_i sz es' es hg hes
      split at h <;> try (simp at h; done)
      rename_i hb
      simp only [Bool.and_eq_true] at hb
      have c1 := Nat.le_of_ble_eq_true hb.1.1.1
      have c3 := Nat.le_of_ble_eq_true hb.1.2
      have c4 := Nat.eq_of_beq_eq_true hb.2
      obtain ⟨sa, scap, sc, hse, hsc, hsr, hsE, hss⟩ := els_sound (P := P) hi hes hs hb.1.1.2
      have hid := Sto.lt_of_get hg
      by_cases hfit : es.length + (x0 :: xr).length ≤ scap
      · -- there is room
        cases hs with
        | srefz =>
          simp only [Value.slice.injEq] at hse
          exfalso; simp at hfit; omega
        | sref hl hcap hbz =>
          rename_i cap l
          simp only [Value.slice.injEq] at hse
          obtain ⟨e1, e2, e3⟩ := hse
          subst e3
          obtain ⟨l', q1, q2, q3⟩ := hi.ob _ _ hg
          rw [hl] at q1; simp only [Option.some.injEq] at q1; subst q1
          obtain ⟨c, t', p1, p2, p3, p4, p5, p6⟩ := q3
          have hes' : es = (es'.drop off).take len ∧ off + len ≤ es'.length := by
            simp only [elsAV, elsAV0, hg] at hes
            split at hes <;> simp only [Option.some.injEq, reduceCtorEq] at hes
            rename_i hle; exact ⟨hes.symm, Nat.le_of_ble_eq_true hle⟩
          obtain ⟨hes1, hes2⟩ := hes'
          have hxc1 : ∀ k, k < xc.size → ∃ e a, (x0 :: xr)[k / i.size]? = some e ∧ e.cells[k % i.size]? = some a ∧ isCell a = true := by
            intro k hk
            rw [hxsz] at hk
            have h1 : k / i.size < (x0 :: xr).length := Nat.div_lt_of_lt_mul (by rw [Nat.mul_comm]; exact hk)
            have h2 : k % i.size < i.size := Nat.mod_lt _ (by omega)
            obtain ⟨s1, s2⟩ := sized_get b1 (List.getElem_mem h1)
            have h3 : k % i.size < (x0 :: xr)[k / i.size].cells.length := by rw [s1]; exact h2
            exact ⟨_, _, List.getElem?_eq_getElem h1, List.getElem?_eq_getElem h3, List.all_eq_true.1 s2 _ (List.getElem_mem h3)⟩
          have hone : ∀ y, y ∈ xc.toList → y.oneCell' = true := by
            intro y hy
            obtain ⟨k, hk⟩ := List.getElem?_of_mem hy
            have hk' : xc[k]? = some y := by simpa using hk
            obtain ⟨e, a, f1, f2, f3⟩ := hxc1 k (Array.getElem?_eq_some_iff.1 hk').1
            refine isCell_sound f3 (hxE.2.2 _ _ e a y f1 f2 ?_)
            rw [← hk']; congr 1; rw [Nat.mul_comm]; exact Nat.div_add_mod k i.size
          have hroom : l.base + off * l.sz + len * i.size + xc.toList.length ≤ c.size := by
            rw [p2, show xc.toList.length = xc.size from Array.length_toList, hxsz]
            have : (off + (len + (x0 :: xr).length)) * l.sz ≤ (off + cap) * l.sz := Nat.mul_le_mul_right _ (by omega)
            rw [Nat.add_mul, Nat.add_mul, p3, c4] at this
            rw [p3, c4] at hbz ⊢
            omega
          obtain ⟨w', r1, r2, r3, r4, r5, r6, r7⟩ := run_storeCells (P := P) (b := l.blk) (o := l.base + off * l.sz + len * i.size) (t := t') xc.toList w c 0 p1 (by omega) hone
          unfold newSlice at h
          split at h <;> simp only [Option.some.injEq, Prod.mk.injEq, reduceCtorEq] at h
          rename_i hn2
          obtain ⟨rfl, rfl⟩ := h
          simp only [Bool.and_eq_true] at hn2
          have d2 : S.nx + 1 ≤ 8192 := Nat.le_of_ble_eq_true hn2.1
          have hxl2 : xc.toList.length = (x0 :: xr).length * i.size := by rw [show xc.toList.length = xc.size from Array.length_toList]; exact hxsz
          have hsum : (es ++ x0 :: xr).length = len + (x0 :: xr).length := by rw [List.length_append, e2]
          have hsz' : (setL c.toList (l.base + off * l.sz + len * i.size + 0) xc.toList).toArray.size = l.bz := by simp [setL_length, p2]
          obtain ⟨m1, m2⟩ := hi.move (w' := w') (by omega) (o' := .arr i.size (es ++ x0 :: xr)) (l' := ⟨l.blk, l.base + off * l.sz, i.size, l.bz⟩) hg c3 hl rfl r4 r2 r3 r5 r6 r7 (by
            refine ⟨_, t', rfl, hsz', rfl, ?_, ?_, ?_⟩
            · rw [hsz', hsum, ← p2]
              have : (x0 :: xr).length * i.size = xc.toList.length := hxl2.symm
              rw [Nat.add_mul, this]
              show l.base + off * l.sz + (len * i.size + xc.toList.length) ≤ c.size
              omega
            · intro e he
              rcases List.mem_append.1 he with k | k
              · rw [hes1] at k; rw [p5 e (List.mem_of_mem_drop (List.mem_of_mem_take k)), c4]
              · exact (sized_get b1 k).1
            · intro i2 j e a y f1 f2 f3
              rw [List.getElem?_toArray, setL_get _ _ _ (by simp at hroom ⊢; omega)] at f3
              simp only [Nat.add_zero] at f3
              by_cases hi2 : i2 < es.length
              · rw [List.getElem?_append_left hi2] at f1
                have hi3 : i2 < len := by omega
                have f1' : es'[off + i2]? = some e := by
                  rw [hes1, List.getElem?_take, if_pos hi3, List.getElem?_drop] at f1; exact f1
                have hj : j < i.size := by rw [← c4, ← p5 e (List.mem_of_getElem? f1')]; exact (List.getElem?_eq_some_iff.1 f2).1
                have hm : i2 * i.size + i.size ≤ len * i.size := by
                  have : (i2 + 1) * i.size ≤ len * i.size := Nat.mul_le_mul_right _ hi3
                  rw [Nat.succ_mul] at this; exact this
                rw [if_neg (by omega)] at f3
                refine p6 (off + i2) j e a y f1' f2 ?_
                rw [← Array.getElem?_toList, ← f3]; congr 1
                rw [p3, c4, Nat.add_mul]; omega
              · rw [List.getElem?_append_right (by omega)] at f1
                have hi3 : i2 - es.length < (x0 :: xr).length := (List.getElem?_eq_some_iff.1 f1).1
                have hj : j < i.size := by rw [← (sized_get b1 (List.mem_of_getElem? f1)).1]; exact (List.getElem?_eq_some_iff.1 f2).1
                have hm : (i2 - es.length) * i.size + i.size ≤ xc.toList.length := by
                  have : (i2 - es.length + 1) * i.size ≤ (x0 :: xr).length * i.size := Nat.mul_le_mul_right _ hi3
                  rw [Nat.succ_mul] at this; rw [hxl2]; exact this
                have hi4 : i2 * i.size = len * i.size + (i2 - es.length) * i.size := by
                  rw [← Nat.add_mul]; congr 1; omega
                rw [if_pos (by omega)] at f3
                refine hxE.2.2 _ j e a y f1 f2 ?_
                rw [← Array.getElem?_toList, ← f3]; congr 1
                omega)
          refine ⟨_, w', _, run_append_fits hst hxt hinfo (by omega) (hxl w) (hxr w rfl) (by rw [Addr.add_none]; exact r1), ?_, m1, m2⟩
          have hv := VR.sref (g := g.add S.nx ⟨l.blk, l.base + off * l.sz, i.size, l.bz⟩) (id := S.nx) (off := 0) (len := (es ++ x0 :: xr).length) (cap := cap) (Gh.add_same _ _ _) (by rw [hsum]; omega)
            (by
              show l.base + off * l.sz + (0 + cap) * i.size ≤ l.bz
              rw [Nat.add_mul, p3, c4] at hbz
              rw [p3, c4, Nat.zero_add]; omega)
          rw [hsum] at hv ⊢
          rw [show (S.del id).nx = S.nx from rfl]
          simpa using hv
      · obtain ⟨z, w', g', r1, r2, r3, r4⟩ := grow (S.del id) es sa scap sc (hi.sub (Sto.del_sub hid)) (by simpa using h) (by simp at c1 ⊢; omega) (by omega) (by rw [← hse]; exact hsr) hsE hss
        exact ⟨z, w', g', by rw [hse]; exact r1, r2, r3, (Ext.del hid c3).trans r4⟩
    · rename_i v
      split at h <;> try (simp at h; done)
      rename_i es hes
      split at h <;> try (simp at h; done)
      rename_i hb
      simp only [Bool.and_eq_true] at hb
      have c1 := Nat.le_of_ble_eq_true hb.1
      obtain ⟨sa, scap, sc, hse, hsc, hsr, hsE, hss⟩ := els_sound (P := P) hi hes hs hb.2
      cases hs with | clip hv => ?_
      simp only [Value.slice.injEq] at hse
      obtain ⟨rfl, e2, e3⟩ := hse
      subst e3
      subst e2
      obtain ⟨z, w', g', r1, r2, r3, r4⟩ := grow S es _ _ sc hi h (by simp at c1 ⊢; omega) (by simp) hsr hsE hss
      exact ⟨z, w', g', r1, r2, r3, r4⟩

end
end Go.Eng

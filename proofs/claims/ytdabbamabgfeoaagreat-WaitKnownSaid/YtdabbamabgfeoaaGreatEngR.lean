/- A result without objects: what a closed computation leaves is never written again; no conditions. -/
import Derived.Test.YtdabbamabgfeoaaGreatEngQ
namespace Go.Eng
noncomputable section

mutual
def frz (S : Sto) : Nat → AV → Option AV
  | 0, _ => none
  | n + 1, .sref id off len => match S.get id with
    | some (.arr _ es) => match Nat.ble (off + len) es.length with
      | true => match frzL S n ((es.drop off).take len) with
        | some l => some (.lit l)
        | none => none
      | false => none
    | _ => none
  | n + 1, .agg cs => match frzL S n cs with
    | some l => some (.agg l)
    | none => none
  | n + 1, .tup cs => match frzL S n cs with
    | some l => some (.tup l)
    | none => none
  | n + 1, .lit cs => match frzL S n cs with
    | some l => some (.lit l)
    | none => none
  | n + 1, .ifc t v => match frz S n v with
    | some x => some (.ifc t x)
    | none => none
  | n + 1, .clip v => match frz S n v with
    | some x => some (.clip x)
    | none => none
  | _ + 1, .sc v => some (.sc v)
  | _ + 1, .nils => some .nils
  | _ + 1, .nilS => some .nilS
  | _ + 1, _ => none
def frzL (S : Sto) : Nat → List AV → Option (List AV)
  | 0, _ => none
  | _ + 1, [] => some []
  | n + 1, v :: r => match frz S n v with
    | some x => match frzL S n r with
      | some l => some (x :: l)
      | none => none
    | none => none
end

theorem frzL_get {S : Sto} : ∀ {n : Nat} {l l' : List AV}, frzL S n l = some l' → l'.length = l.length ∧ ∀ (k : Nat) (a : AV), l[k]? = some a → ∃ (m : Nat) (a' : AV), m < n ∧ frz S m a = some a' ∧ l'[k]? = some a' := by
  intro n
  induction n with
  | zero => intro l l' h; simp [frzL] at h
  | succ n ih =>
    intro l l' h
    cases l with
    | nil => simp only [frzL, Option.some.injEq] at h; subst h; exact ⟨rfl, fun k a e => by simp at e⟩
    | cons v r =>
      simp only [frzL] at h
      split at h <;> try (simp at h; done)
      rename_i x hx
      split at h <;> simp only [Option.some.injEq, reduceCtorEq] at h
      rename_i l2 hl2
      subst h
      obtain ⟨h1, h2⟩ := ih hl2
      refine ⟨by simp [h1], fun k a e => ?_⟩
      cases k with
      | zero => simp at e; subst e; exact ⟨n, x, by omega, hx, rfl⟩
      | succ k =>
        obtain ⟨m, a', p, q, r'⟩ := h2 k a (by simpa using e)
        exact ⟨m, a', by omega, q, by simpa using r'⟩

/- The heap behind a store, never written again. -/
def Gh.frozen (S : Sto) (g : Gh) (w : World) (n : Gh) : Prop :=
  Gh.le g n ∧ n.ph = g.ph ∧ (∀ id o l c t fz, S.get id = some o → g.ph id = some l → w.heap[l.blk]? = some (.cells c t fz) → n.ro l.blk = some c)

theorem frz_cells {S : Sto} {n : Nat} {v v' : AV} (h : frz S n v = some v') : (∃ cs cs' m, n = m + 1 ∧ v = .agg cs ∧ v' = .agg cs' ∧ frzL S m cs = some cs') ∨ (v.cells = [v] ∧ v'.cells = [v']) := by
  cases n with
  | zero => simp [frz] at h
  | succ n =>
    cases v with
    | agg cs =>
      simp only [frz] at h
      split at h <;> simp only [Option.some.injEq, reduceCtorEq] at h
      rename_i l hl
      exact .inl ⟨cs, l, n, rfl, rfl, h.symm, hl⟩
    | sref id off len =>
      simp only [frz] at h
      split at h <;> try (simp at h; done)
      split at h <;> try (simp at h; done)
      split at h <;> simp only [Option.some.injEq, reduceCtorEq] at h
      subst h; exact .inr ⟨rfl, rfl⟩
    | tup cs => simp only [frz] at h; split at h <;> simp only [Option.some.injEq, reduceCtorEq] at h; subst h; exact .inr ⟨rfl, rfl⟩
    | lit cs => simp only [frz] at h; split at h <;> simp only [Option.some.injEq, reduceCtorEq] at h; subst h; exact .inr ⟨rfl, rfl⟩
    | clip v => simp only [frz] at h; split at h <;> simp only [Option.some.injEq, reduceCtorEq] at h; subst h; exact .inr ⟨rfl, rfl⟩
    | ifc t v => simp only [frz] at h; split at h <;> simp only [Option.some.injEq, reduceCtorEq] at h; subst h; exact .inr ⟨rfl, rfl⟩
    | sc v => simp only [frz, Option.some.injEq] at h; subst h; exact .inr ⟨rfl, rfl⟩
    | nils => simp only [frz, Option.some.injEq] at h; subst h; exact .inr ⟨rfl, rfl⟩
    | nilS => simp only [frz, Option.some.injEq] at h; subst h; exact .inr ⟨rfl, rfl⟩
    | _ => simp [frz] at h

theorem frzL_back {S : Sto} {n : Nat} {l l' : List AV} (h : frzL S n l = some l') {k : Nat} {a' : AV} (e : l'[k]? = some a') : ∃ (m : Nat) (a : AV), m < n ∧ frz S m a = some a' ∧ l[k]? = some a := by
  obtain ⟨h1, h2⟩ := frzL_get h
  have hk : k < l.length := by have := (List.getElem?_eq_some_iff.1 e).1; omega
  obtain ⟨m, a2, p, q, r⟩ := h2 k l[k] (List.getElem?_eq_getElem hk)
  rw [e] at r; simp only [Option.some.injEq] at r; subst r
  exact ⟨m, _, p, q, List.getElem?_eq_getElem hk⟩

/- Cells of frozen elements. -/
theorem frz_elem {S : Sto} {g gn : Gh} {n : Nat} (ih : ∀ m, m < n → ∀ (v v' : AV) (x : Value), frz S m v = some v' → VR g v x → VR gn v' x) {m : Nat} (hm : m < n) {e0 e a : AV} (hf : frz S m e0 = some e) {j : Nat} (ha : e.cells[j]? = some a) {x : Value}
    (h : ∀ a0, e0.cells[j]? = some a0 → VR g a0 x) : VR gn a x := by
  rcases frz_cells hf with ⟨cs, cs', q, rfl, rfl, rfl, hl⟩ | ⟨c1, c2⟩
  · obtain ⟨m2, a0, p1, p2, p3⟩ := frzL_back hl ha
    exact ih m2 (by omega) a0 a x p2 (h a0 p3)
  · rw [c2] at ha
    cases j with
    | zero => simp at ha; subst ha; exact ih m hm e0 _ x hf (h e0 (by rw [c1]; rfl))
    | succ j => simp at ha
theorem frz_len {S : Sto} {m : Nat} {e0 e : AV} (hf : frz S m e0 = some e) : e.cells.length = e0.cells.length := by
  rcases frz_cells hf with ⟨cs, cs', q, rfl, rfl, rfl, hl⟩ | ⟨c1, c2⟩
  · exact (frzL_get hl).1
  · rw [c1, c2]; rfl

theorem frz_sound {S : Sto} {g gn : Gh} {w : World} (hi : Inv S g w) (hg : Gh.frozen S g w gn) : ∀ (n : Nat) (v v' : AV) (x : Value), frz S n v = some v' → VR g v x → VR gn v' x := by
  intro n
  induction n using Nat.strongRecOn with
  | _ n ih =>
    intro v v' x h hv
    cases n with
    | zero => simp [frz] at h
    | succ n =>
      cases v with
      | sref id off len =>
        simp only [frz] at h
        split at h <;> try (simp at h; done)
        rename_i sz es hob
        split at h <;> try (simp at h; done)
        rename_i hb
        have hb := Nat.le_of_ble_eq_true hb
        split at h <;> simp only [Option.some.injEq, reduceCtorEq] at h
        rename_i l hl
        subst h
        obtain ⟨hlen, _⟩ := frzL_get hl
        have hll : l.length = len := by rw [hlen]; simp; omega
        cases hv with
        | srefz =>
          have : l = [] := List.eq_nil_of_length_eq_zero hll
          subst this; exact .lit0
        | sref hl0 hc hbz =>
          rename_i cap lc
          obtain ⟨l1, a1, a2, a3⟩ := hi.ob _ _ hob
          rw [hl0] at a1; simp only [Option.some.injEq] at a1; subst a1
          obtain ⟨c, t, b1, b2, b3, b4, b5, b6⟩ := a3
          have hro := hg.2.2 id _ _ c t (0, 0) hob hl0 b1
          have helem : ∀ i e, l[i]? = some e → ∃ (m : Nat) (e0 : AV), m < n ∧ frz S m e0 = some e ∧ es[off + i]? = some e0 ∧ i < len := by
            intro i e he
            obtain ⟨m, e0, p1, p2, p3⟩ := frzL_back hl he
            rw [List.getElem?_take] at p3
            split at p3 <;> try (simp at p3; done)
            rw [List.getElem?_drop] at p3
            exact ⟨m, e0, p1, p2, p3, by assumption⟩
          have hmul : (off + len) * lc.sz ≤ es.length * sz := by rw [b3]; exact Nat.mul_le_mul_right _ hb
          have hmul2 : (off + len) * lc.sz = off * lc.sz + len * lc.sz := Nat.add_mul _ _ _
          have key : VR gn (.lit l) (.slice (some ⟨lc.blk, lc.base + off * lc.sz, none⟩) l.length cap) := by
            refine VR.lit (sz := lc.sz) hro ?_ ?_ (by omega) ?_
            · intro e he
              obtain ⟨i, hi', he'⟩ := List.mem_iff_getElem.1 he
              obtain ⟨m, e0, _, p2, p3, _⟩ := helem i e (by rw [List.getElem?_eq_getElem hi', he'])
              rw [frz_len p2, b5 e0 (List.mem_of_getElem? p3), b3]
            · rw [hll]; omega
            · intro i j e a y p q r
              obtain ⟨m, e0, p1, p2, p3, _⟩ := helem i e p
              refine frz_elem (n := n + 1) ih (by omega) p2 q fun a0 ha0 => b6 (off + i) j e0 a0 y p3 ha0 ?_
              rw [← r]
              congr 1
              rw [← b3, Nat.add_mul]; omega
          rw [hll] at key; exact key
      | agg cs =>
        simp only [frz] at h
        split at h <;> simp only [Option.some.injEq, reduceCtorEq] at h
        rename_i l hl
        subst h
        cases hv with | agg h1 h2 => ?_
        refine .agg (by rw [(frzL_get hl).1]; exact h1) fun k a y e e' => ?_
        obtain ⟨m, a0, p1, p2, p3⟩ := frzL_back hl e
        exact ih m (by omega) a0 a y p2 (h2 k a0 y p3 e')
      | tup cs =>
        simp only [frz] at h
        split at h <;> simp only [Option.some.injEq, reduceCtorEq] at h
        rename_i l hl
        subst h
        cases hv with | tup h1 h2 => ?_
        refine .tup (by rw [(frzL_get hl).1]; exact h1) fun k a y e e' => ?_
        obtain ⟨m, a0, p1, p2, p3⟩ := frzL_back hl e
        exact ih m (by omega) a0 a y p2 (h2 k a0 y p3 e')
      | lit cs =>
        simp only [frz] at h
        split at h <;> simp only [Option.some.injEq, reduceCtorEq] at h
        rename_i l hl
        subst h
        have hlen := (frzL_get hl).1
        cases hv with
        | lit hr hs hb hcap h2 =>
          rename_i b o sz cap c
          have key : VR gn (.lit l) (.slice (some ⟨b, o, none⟩) l.length cap) := by
            refine VR.lit (sz := sz) (hg.1.ro _ _ hr) ?_ (by rw [hlen]; exact hb) (by omega) ?_
            · intro e he
              obtain ⟨i, hi', he'⟩ := List.mem_iff_getElem.1 he
              obtain ⟨m, e0, _, p2, p3⟩ := frzL_back hl (by rw [List.getElem?_eq_getElem hi', he'])
              rw [frz_len p2]; exact hs e0 (List.mem_of_getElem? p3)
            · intro i j e a y p q r
              obtain ⟨m, e0, p1, p2, p3⟩ := frzL_back hl p
              exact frz_elem (n := n + 1) ih (by omega) p2 q fun a0 ha0 => h2 i j e0 a0 y p3 ha0 r
          rw [hlen] at key; exact key
        | lit0 =>
          have : l = [] := List.eq_nil_of_length_eq_zero hlen
          subst this; exact .lit0
      | ifc t v =>
        simp only [frz] at h
        split at h <;> simp only [Option.some.injEq, reduceCtorEq] at h
        rename_i y hy
        subst h
        cases hv with | ifc hv => exact .ifc (ih n (by omega) v y _ hy hv)
      | clip v =>
        simp only [frz] at h
        split at h <;> simp only [Option.some.injEq, reduceCtorEq] at h
        rename_i y hy
        subst h
        cases hv with | clip hv => exact .clip (ih n (by omega) v y _ hy hv)
      | sc v => simp only [frz, Option.some.injEq] at h; subst h; exact hv.mono hg.1
      | nils => simp only [frz, Option.some.injEq] at h; subst h; exact hv.mono hg.1
      | nilS => simp only [frz, Option.some.injEq] at h; subst h; exact hv.mono hg.1
      | _ => simp [frz] at h

open Classical in
noncomputable def Gh.freeze (g : Gh) (S : Sto) (w : World) : Gh :=
  { ro := fun b => match g.ro b with
      | some c => some c
      | none => match w.heap[b]? with
        | some (.cells c _ _) => if (∃ id o l, S.get id = some o ∧ g.ph id = some l ∧ l.blk = b) then some c else none
        | _ => none
    ph := g.ph }

theorem Gh.freeze_frozen {S : Sto} {g : Gh} {w : World} (hi : Inv S g w) : Gh.frozen S g w (g.freeze S w) := by
  refine ⟨⟨fun b c e => by simp [Gh.freeze, e], fun _ _ e => e⟩, rfl, fun id o l c t fz e1 e2 e3 => ?_⟩
  obtain ⟨l', a1, a2, _⟩ := hi.ob id o e1
  rw [e2] at a1; simp only [Option.some.injEq] at a1; subst a1
  simp only [Gh.freeze, a2, e3]
  rw [if_pos ⟨id, o, l, e1, e2, rfl⟩]

/- A closed computation: its result without objects. -/
theorem FnC.freeze {P : Program} {f : FuncId} {args : List AV} {v' : AV} {Q : Res → Sto → Prop} {n : Nat} (h : FnC P f args Sto.empty Q) (hQ : ∀ r S', Q r S' → ∃ v, r = .ret v ∧ frz S' n v = some v') :
    FnC P f args Sto.empty fun r _ => r = .ret v' := by
  intro g w xs hx hi
  refine (h g w xs hx hi).mono fun e w' ⟨r, S', g', hq, hres, hi', hxt⟩ => ?_
  obtain ⟨v, hr, hf⟩ := hQ r S' hq
  subst hr
  have hfz := Gh.freeze_frozen hi'
  have hem : ∀ id, (⟨S'.nx, S'.lim, .nil⟩ : Sto).get id = none := by
    intro id
    by_cases h : id < 8192
    · rw [Sto.get_small h]; exact PT.get_nil _ _
    · exact Sto.get_big h
  have hcase : ∀ b c, (g'.freeze S' w').ro b = some c → g'.ro b = some c ∨ (∃ t fz, w'.heap[b]? = some (.cells c t fz)) ∧ ∃ id o l, S'.get id = some o ∧ g'.ph id = some l ∧ l.blk = b := by
    intro b c e
    simp only [Gh.freeze] at e
    split at e
    · rename_i c' hc; simp only [Option.some.injEq] at e; subst e; exact .inl hc
    · split at e
      · rename_i c' t fz hh
        split at e <;> simp only [Option.some.injEq, reduceCtorEq] at e
        rename_i hex
        subst e; exact .inr ⟨⟨t, fz, hh⟩, hex⟩
      · simp at e
  refine ⟨.ret v', ⟨S'.nx, S'.lim, .nil⟩, g'.freeze S' w', rfl, ?_, ⟨?_, ?_, ?_, ?_⟩, ⟨hxt.size, hxt.os, hxt.tape, hxt.output, hxt.keep, ?_, Gh.le_trans hxt.gle hfz.1, hxt.nx, hxt.lim, ?_, hxt.old, ?_, fun id _ _ => hem id, hxt.fz⟩⟩
  · cases e with
    | returned x => exact frz_sound hi' hfz n v v' x hf hres
    | panicked c => exact hres.elim
    | outgrown => exact hres.elim
  · intro b c e
    rcases hcase b c e with q | ⟨q, _⟩
    · exact hi'.ro b c q
    · exact q
  · intro id o e; rw [hem] at e; simp at e
  · intro id id' o o' l l' e; rw [hem] at e; simp at e
  · exact hi'.fresh
  · intro id o l e; rw [hem] at e; simp at e
  · intro id hid; exact absurd hid (Nat.not_lt_zero id)
  · intro b c e hb
    rcases hcase b c e with q | ⟨_, id, o, l, q1, q2, q3⟩
    · exact hxt.ron b c q hb
    · obtain ⟨id0, o0, l0, r1, _⟩ := hxt.own id o l q1 (Nat.zero_le id) q2 (by rw [q3]; exact hb)
      rw [Sto.get_empty] at r1; simp at r1

end
end Go.Eng

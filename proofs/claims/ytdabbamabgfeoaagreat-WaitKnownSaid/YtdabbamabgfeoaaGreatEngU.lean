/- A drawn region under way: one more operation; no conditions. -/
import Derived.Test.YtdabbamabgfeoaaGreatEngT
namespace Go.Eng
noncomputable section

theorem nn_agree {S : Sto} {E1 E2 : Nat → Sto} : ∀ {m : Nat}, (∀ j, j < m → E1 j = E2 j) → nn S E1 m = nn S E2 m := by
  intro m h
  cases m with
  | zero => rfl
  | succ m => simp only [nn, h m (by omega)]
theorem sv_agree {ops : Array Oper} {F : AFrame} {S : Sto} {E1 E2 : Nat → Sto} {v1 v2 : Nat → AV} {X : Nat → Bool} {t : Nat} : ∀ {m : Nat}, (∀ j, j < m → E1 j = E2 j) → (∀ j, j < m → v1 j = v2 j) →
    sv ops F S E1 v1 X m t = sv ops F S E2 v2 X m t := by
  intro m
  induction m with
  | zero => intro _ _; rfl
  | succ m ih =>
    intro h h'
    simp only [sv, ih (fun j hj => h j (by omega)) (fun j hj => h' j (by omega)), h' m (by omega), nn, h m (by omega)]
theorem ov_agree {S : Sto} {E1 E2 : Nat → Sto} {c1 c2 : Nat → Nat → Option (Option AObj)} {X : Nat → Bool} {id : Nat} : ∀ {m : Nat}, (∀ j, j < m → E1 j = E2 j) → (∀ j, j < m → c1 j = c2 j) →
    ov S E1 c1 X m id = ov S E2 c2 X m id := by
  intro m
  induction m with
  | zero => intro _ _; rfl
  | succ m ih =>
    intro h h'
    simp only [ov, ih (fun j hj => h j (by omega)) (fun j hj => h' j (by omega)), h' m (by omega), nn, h m (by omega)]

def upd {α : Type} (f : Nat → α) (i : Nat) (x : α) : Nat → α := fun j => if j = i then x else f j
theorem upd_same {α : Type} (f : Nat → α) (i : Nat) (x : α) : upd f i x i = x := by simp [upd]
theorem upd_lt {α : Type} (f : Nat → α) {i j : Nat} (x : α) (h : j < i) : upd f i x j = f j := by simp [upd, show j ≠ i by omega]

/- A drawn region of which the first operations are done. -/
structure DI (P : Program) (F0 : AFrame) (S0 : Sto) (D : DSt) (E E' : Nat → Sto) (v : Nat → AV) (ch : Nat → Nat → Option (Option AObj)) : Prop where
  hi : D.i ≤ D.ops.size
  os : D.os = D.ops.toList.drop D.i
  pms : D.pms = masks (D.ops.toList.take D.i) 0 []
  ok : regOk D.ops = true
  dp : DP D.ops F0 S0 (pmOf D.ops) E E' v ch P D.i
  slots : ∀ t u, D.F.get t = some u → ∃ st, sv D.ops F0 S0 E' v (fun _ => true) D.i t = some (u, st)
  nx : D.S.nx = nn S0 E' D.i
  lim : D.S.lim = S0.lim
  liml : S0.lim ≤ S0.nx
  get : ∀ id, D.S.get id = match ov S0 E' ch (fun _ => true) D.i id with
    | some (o, _) => some o
    | none => none
  chs : ∀ j, j < D.i → ∀ id, ch j id ≠ none → ∃ c, (j, c) ∈ D.chs ∧ c.has id = true
  es : ∀ j, j < D.i → ∀ id, (E j).get id ≠ none → (j, E j) ∈ D.es
  small : ∀ j c, (j, ChS.lst c) ∈ D.chs → ∀ id, lkC c id = true → id < 8192
  mode : F0.mode = .run
  todo : ∃ id, F0.todo = .code (.region id D.ops true) :: D.F.todo
  keep : D.F.n = F0.n ∧ D.F.defers = F0.defers ∧ D.F.mode = F0.mode ∧ D.F.kind = F0.kind ∧ D.F.fn = F0.fn ∧ D.F.round = F0.round ∧ D.F.cm = F0.cm

theorem AFrame.get_set {F : AFrame} {d t : Nat} {v u : AV} (h : (F.set d v).get t = some u) : (t = d ∧ t < F.n ∧ u = v) ∨ (¬ (t = d ∧ t < F.n) ∧ F.get t = some u) := by
  unfold AFrame.set at h
  cases hb : Nat.ble (d + 1) F.n with
  | false =>
    rw [hb] at h
    refine .inr ⟨?_, h⟩
    rintro ⟨rfl, hlt⟩
    rw [Nat.ble_eq_true_of_le (show t + 1 ≤ F.n from hlt)] at hb; simp at hb
  | true =>
    have hlt : d < F.n := Nat.le_of_ble_eq_true hb
    rw [hb] at h
    simp only at h
    by_cases e : t = d
    · subst e
      refine .inl ⟨rfl, hlt, ?_⟩
      cases hm : tb F.mask t with
      | true =>
        rw [hm] at h
        simp only [AFrame.get, hm, lk_up_same, Option.some.injEq] at h
        exact h.symm
      | false =>
        rw [hm] at h
        simp only [AFrame.get, hm, lk_cons, Nat.beq_refl, Option.some.injEq] at h
        exact h.symm
    · refine .inr ⟨fun q => e q.1, ?_⟩
      cases hm : tb F.mask d with
      | true =>
        rw [hm] at h
        simp only [AFrame.get] at h ⊢
        cases hm' : tb F.mask t with
        | true => rw [hm'] at h; simp only at h; rw [lk_up_other _ _ e] at h; exact h
        | false => rw [hm'] at h; exact h
      | false =>
        rw [hm] at h
        simp only [AFrame.get] at h ⊢
        cases hm' : tb F.mask t with
        | true => rw [hm'] at h; exact h
        | false =>
          rw [hm'] at h
          simp only [lk_cons] at h
          rw [show Nat.beq d t = false from by rw [Bool.eq_false_iff]; exact fun q => e (Nat.eq_of_beq_eq_true q).symm] at h
          exact h
theorem AFrame.set_keep (F : AFrame) (t : Nat) (v : AV) : (F.set t v).n = F.n ∧ (F.set t v).defers = F.defers ∧ (F.set t v).mode = F.mode ∧ (F.set t v).kind = F.kind ∧ (F.set t v).fn = F.fn ∧ (F.set t v).round = F.round ∧ (F.set t v).cm = F.cm ∧ (F.set t v).todo = F.todo := by
  unfold AFrame.set
  split
  · split <;> exact ⟨rfl, rfl, rfl, rfl, rfl, rfl, rfl, rfl⟩
  · exact ⟨rfl, rfl, rfl, rfl, rfl, rfl, rfl, rfl⟩
theorem AFrame.put_keep (F : AFrame) (d : Option Tmp) (v : AV) : (F.put d v).n = F.n ∧ (F.put d v).defers = F.defers ∧ (F.put d v).mode = F.mode ∧ (F.put d v).kind = F.kind ∧ (F.put d v).fn = F.fn ∧ (F.put d v).round = F.round ∧ (F.put d v).cm = F.cm ∧ (F.put d v).todo = F.todo := by
  cases d with
  | none => exact ⟨rfl, rfl, rfl, rfl, rfl, rfl, rfl, rfl⟩
  | some t => exact F.set_keep t v

theorem DI.here {P : Program} {F0 : AFrame} {S0 : Sto} {D : DSt} {E E' : Nat → Sto} {v : Nat → AV} {ch : Nat → Nat → Option (Option AObj)} (h : DI P F0 S0 D E E' v ch) {o : Oper} {os : List Oper} (ho : D.os = o :: os) :
    D.ops[D.i]? = some o ∧ os = D.ops.toList.drop (D.i + 1) ∧ D.i < D.ops.size ∧ D.ops.toList.take (D.i + 1) = D.ops.toList.take D.i ++ [o] := by
  have h1 := h.os
  rw [ho] at h1
  have h2 : D.ops.toList[D.i]? = some o := by
    have : (D.ops.toList.drop D.i)[0]? = some o := by rw [← h1]; rfl
    rw [List.getElem?_drop] at this
    simpa using this
  refine ⟨by simpa using h2, ?_, ?_, ?_⟩
  · have : (D.ops.toList.drop D.i).tail = os := by rw [← h1]; rfl
    rw [← this, List.tail_drop]
  · have := (List.getElem?_eq_some_iff.1 h2).1
    simpa using this
  · rw [List.take_add_one, h2]; rfl
theorem masks_append (o : Oper) : ∀ (os : List Oper) (i : Nat) (pms : List (Nat × Nat)), masks (os ++ [o]) i pms = (i + os.length, edgeMask (masks os i pms) o.after.toList) :: masks os i pms := by
  intro os
  induction os with
  | nil => intro i pms; rfl
  | cons a os ih =>
    intro i pms
    simp only [List.cons_append, masks, ih, List.length_cons]
    rw [show i + 1 + os.length = i + (os.length + 1) from by omega]

theorem DI.wf {P : Program} {F0 : AFrame} {S0 : Sto} {D : DSt} {E E' : Nat → Sto} {v : Nat → AV} {ch : Nat → Nat → Option (Option AObj)} (h : DI P F0 S0 D E E' v ch) (hS : ∀ id o, S0.get id = some o → id < S0.nx) {id : Nat} {o : AObj}
    (e : D.S.get id = some o) : id < D.S.nx := by
  rw [h.get] at e
  split at e <;> simp only [Option.some.injEq, reduceCtorEq] at e
  rename_i o' st e'
  rw [h.nx]
  exact Nat.lt_of_lt_of_le (ov_lt h.dp hS (Nat.le_refl _) e') (ov_stage h.dp (Nat.le_refl _) e')

theorem DI.step {P : Program} {F0 : AFrame} {S0 : Sto} {D : DSt} {E E' : Nat → Sto} {v : Nat → AV} {ch : Nat → Nat → Option (Option AObj)} (h : DI P F0 S0 D E E' v ch)
    {o : Oper} {os : List Oper} (ho : D.os = o :: os) {En En' : Sto} {vn : AV} {chn : Nat → Option (Option AObj)} {pi : Nat} (hpi : pi = edgeMask D.pms o.after.toList)
    (hop : OpC P D.ops o D.F.get En vn En') (hnx : En.nx = D.S.nx) (hmono : En.nx ≤ En'.nx) (hlim : D.S.lim ≤ En.lim)
    (hsee : ∀ id ob, En.get id = some ob → D.S.get id = some ob ∧ ∀ j, j < D.i → tb pi j = false → ch j id = none)
    (hR : ∀ j, j < D.i → tb pi j = false → ∀ id, chn id ≠ none → id < D.S.nx → (E j).get id = none)
    (hchE : ∀ id ob, chn id = some (some ob) → En'.get id = some ob)
    (hchC : ∀ id ob, En.get id = some ob → En.lim ≤ id → chn id ≠ none)
    (hchL : ∀ id, chn id ≠ none → En.lim ≤ id ∧ id < En'.nx)
    (hchN : ∀ id, chn id ≠ none → En.get id ≠ none ∨ En.nx ≤ id)
    {D' : DSt} (d1 : D'.F = fput D.F o.dst vn) (d2 : D'.ops = D.ops) (d3 : D'.os = os) (d4 : D'.i = D.i + 1) (d5 : D'.pms = (D.i, pi) :: D.pms)
    (s1 : D'.S.nx = En'.nx) (s2 : D'.S.lim = D.S.lim) (s3 : ∀ id, D'.S.get id = match chn id with
      | some r => r
      | none => D.S.get id)
    (c1 : ∀ id, chn id ≠ none → ∃ c, (D.i, c) ∈ D'.chs ∧ c.has id = true) (c2 : ∀ p, p ∈ D.chs → p ∈ D'.chs)
    (c3 : ∀ j c, (j, ChS.lst c) ∈ D'.chs → ∀ id, lkC c id = true → id < 8192)
    (e1 : ∀ id, En.get id ≠ none → (D.i, En) ∈ D'.es) (e2 : ∀ p, p ∈ D.es → p ∈ D'.es) :
    DI P F0 S0 D' (upd E D.i En) (upd E' D.i En') (upd v D.i vn) (upd ch D.i chn) := by
  obtain ⟨h1, h2, h3, h4⟩ := h.here ho
  have hpm : ∀ j, pmOf D.ops D.i j = tb pi j := by
    intro j
    unfold pmOf
    rw [pmOf_mask h1, hpi, h.pms]
  have aE' : ∀ {m}, m ≤ D.i → ∀ j, j < m → upd E' D.i En' j = E' j := fun hm j hj => upd_lt _ _ (by omega)
  have av : ∀ {m}, m ≤ D.i → ∀ j, j < m → upd v D.i vn j = v j := fun hm j hj => upd_lt _ _ (by omega)
  have ac : ∀ {m}, m ≤ D.i → ∀ j, j < m → upd ch D.i chn j = ch j := fun hm j hj => upd_lt _ _ (by omega)
  have hnn : ∀ {m}, m ≤ D.i → nn S0 (upd E' D.i En') m = nn S0 E' m := fun hm => nn_agree (aE' hm)
  have hsv : ∀ {m X t}, m ≤ D.i → sv D.ops F0 S0 (upd E' D.i En') (upd v D.i vn) X m t = sv D.ops F0 S0 E' v X m t := fun hm => sv_agree (aE' hm) (av hm)
  have hov : ∀ {m X id}, m ≤ D.i → ov S0 (upd E' D.i En') (upd ch D.i chn) X m id = ov S0 E' ch X m id := fun hm => ov_agree (aE' hm) (ac hm)
  have cs : ∀ {i}, i < D.i + 1 → i < D.i ∨ i = D.i := fun hi => by omega
  have hk := D.F.put_keep o.dst vn
  rw [← fput_eq, ← d1] at hk
  have dp : DP D.ops F0 S0 (pmOf D.ops) (upd E D.i En) (upd E' D.i En') (upd v D.i vn) (upd ch D.i chn) P (D.i + 1) := by
    refine ⟨?_, ?_, ?_, ?_, ?_, ?_, ?_, ?_, ?_, ?_, ?_⟩
    · intro i hi
      rcases cs hi with q | rfl
      · rw [upd_lt _ _ q, hnn (by omega)]; exact h.dp.nxE i q
      · rw [upd_same, hnn (Nat.le_refl _), hnx, h.nx]
    · intro i hi
      rcases cs hi with q | rfl
      · rw [upd_lt _ _ q, upd_lt _ _ q]; exact h.dp.mono i q
      · rw [upd_same, upd_same]; exact hmono
    · intro i hi
      rcases cs hi with q | rfl
      · rw [upd_lt _ _ q]; exact h.dp.lim i q
      · rw [upd_same, ← h.lim]; exact hlim
    · intro i hi id ob e
      rcases cs hi with q | rfl
      · rw [upd_lt _ _ q] at e
        obtain ⟨st, e'⟩ := h.dp.see i q id ob e
        exact ⟨st, by rw [hov (by omega)]; exact e'⟩
      · rw [upd_same] at e
        obtain ⟨a, b⟩ := hsee id ob e
        rw [h.get] at a
        split at a <;> simp only [Option.some.injEq, reduceCtorEq] at a
        rename_i o' st e'
        subst a
        refine ⟨st, ?_⟩
        rw [hov (Nat.le_refl _), ← e']
        refine ov_congr fun j hj hc => ?_
        cases hp : pmOf D.ops D.i j with
        | true => rfl
        | false => exact absurd (b j hj (by rw [← hpm]; exact hp)) hc
    · intro i hi j hj hp id hc
      rcases cs hi with q | rfl
      · rw [upd_lt _ _ (show j < D.i by omega)] at hc
        rw [upd_lt _ _ q]; exact h.dp.apartL i q j hj hp id hc
      · rw [upd_lt _ _ hj] at hc
        rw [upd_same]
        cases e : En.get id with
        | none => rfl
        | some ob => exact absurd ((hsee id ob e).2 j hj (by rw [← hpm]; exact hp)) hc
    · intro i hi j hj hij hp id hc hlt
      rcases cs hj with q | rfl
      · rw [upd_lt _ _ q] at hc hlt
        rw [upd_lt _ _ (show i < D.i by omega)]
        exact h.dp.apartR i (by omega) j q hij hp id hc hlt
      · rw [upd_same] at hc hlt
        rw [upd_lt _ _ hij]
        exact hR i hij (by rw [← hpm]; exact hp) id hc (by rw [← hnx]; exact hlt)
    · intro i hi id ob e
      rcases cs hi with q | rfl
      · rw [upd_lt _ _ q] at e; rw [upd_lt _ _ q]; exact h.dp.chE i q id ob e
      · rw [upd_same] at e; rw [upd_same]; exact hchE id ob e
    · intro i hi id ob e hl
      rcases cs hi with q | rfl
      · rw [upd_lt _ _ q] at e hl; rw [upd_lt _ _ q]; exact h.dp.chC i q id ob e hl
      · rw [upd_same] at e hl; rw [upd_same]; exact hchC id ob e hl
    · intro i hi id e
      rcases cs hi with q | rfl
      · rw [upd_lt _ _ q] at e; rw [upd_lt _ _ q, upd_lt _ _ q]; exact h.dp.chL i q id e
      · rw [upd_same] at e; rw [upd_same, upd_same]; exact hchL id e
    · intro i hi id e
      rcases cs hi with q | rfl
      · rw [upd_lt _ _ q] at e; rw [upd_lt _ _ q]; exact h.dp.chN i q id e
      · rw [upd_same] at e; rw [upd_same]; exact hchN id e
    · intro i hi
      rcases cs hi with q | rfl
      · obtain ⟨oi, a, b⟩ := h.dp.op i q
        refine ⟨oi, a, ?_⟩
        rw [upd_lt _ _ q, upd_lt _ _ q, upd_lt _ _ q]
        simp only [hsv (show i ≤ D.i by omega)]
        exact b
      · refine ⟨o, h1, ?_⟩
        rw [upd_same, upd_same, upd_same]
        refine hop.mono fun t u e => ?_
        obtain ⟨st, e'⟩ := h.slots t u e
        rw [hsv (Nat.le_refl _), e']
  refine ⟨?_, ?_, ?_, ?_, ?_, ?_, ?_, ?_, h.liml, ?_, ?_, ?_, c3, h.mode, ?_, ?_⟩
  · rw [d4, d2]; omega
  · rw [d3, d2, d4]; exact h2
  · rw [d5, d2, d4, h4, masks_append, ← h.pms, hpi]
    congr 2
    have : (D.ops.toList.take D.i).length = D.i := by rw [List.length_take]; simp; omega
    omega
  · rw [d2]; exact h.ok
  · rw [d2, d4]; exact dp
  · intro t u e
    rw [d2, d4]
    simp only [sv, upd_same, true_and]
    have hdo : dstOf D.ops D.i = o.dst := by simp [dstOf, h1]
    rw [hdo, hsv (Nat.le_refl _)]
    rw [d1, fput_eq] at e
    cases hd : o.dst with
    | none =>
      rw [hd] at e
      rw [if_neg (by simp)]
      exact h.slots t u e
    | some d =>
      rw [hd] at e
      rcases AFrame.get_set e with ⟨q1, q2, q3⟩ | ⟨q1, q2⟩
      · subst q1; subst q3
        rw [if_pos ⟨rfl, by rw [← h.keep.1]; exact q2⟩]
        exact ⟨_, rfl⟩
      · rw [if_neg]
        · exact h.slots t u q2
        · rintro ⟨a, b⟩
          simp only [Option.some.injEq] at a
          exact q1 ⟨a.symm, by rw [h.keep.1]; exact b⟩
  · rw [s1, d4]; simp only [nn, upd_same]
  · rw [s2]; exact h.lim
  · intro id
    rw [s3, d4]
    simp only [ov, upd_same, if_true, hov (Nat.le_refl _)]
    cases hc : chn id with
    | none => exact h.get id
    | some r => cases r <;> rfl
  · intro j hj id e
    rw [d4] at hj
    rcases cs hj with q | rfl
    · rw [upd_lt _ _ q] at e
      obtain ⟨c, a, b⟩ := h.chs j q id e
      exact ⟨c, c2 _ a, b⟩
    · rw [upd_same] at e; exact c1 id e
  · intro j hj id e
    rw [d4] at hj
    rcases cs hj with q | rfl
    · rw [upd_lt _ _ q] at e ⊢; exact e2 _ (h.es j q id e)
    · rw [upd_same] at e ⊢; exact e1 id e
  · obtain ⟨id, e⟩ := h.todo
    exact ⟨id, by rw [hk.2.2.2.2.2.2.2, d2]; exact e⟩
  · obtain ⟨k1, k2, k3, k4, k5, k6, k7⟩ := h.keep
    obtain ⟨a1, a2, a3, a4, a5, a6, a7, _⟩ := hk
    exact ⟨a1.trans k1, a2.trans k2, a3.trans k3, a4.trans k4, a5.trans k5, a6.trans k6, a7.trans k7⟩

/- The beginning of a drawn region. -/
theorem DI.start {P : Program} {F0 : AFrame} {S0 : Sto} {D : DSt} {id : Nat} (hok : regOk D.ops = true) (hl : S0.lim ≤ S0.nx) (hm : F0.mode = .run) (ht : F0.todo = .code (.region id D.ops true) :: D.F.todo)
    (hF : D.F = flocs F0 D.F.todo) (hS : D.S = S0) (ho : D.os = D.ops.toList) (hi : D.i = 0) (hp : D.pms = []) (hc : D.chs = []) :
    DI P F0 S0 D (fun _ => S0) (fun _ => S0) (fun _ => .top) (fun _ _ => none) := by
  refine ⟨by omega, by rw [hi]; simpa using ho, by rw [hi, hp]; rfl, hok, ?_, ?_, ?_, by rw [hS], hl, ?_, ?_, ?_, ?_, hm, ⟨id, ht⟩, ?_⟩
  · rw [hi]
    exact ⟨fun _ h => by omega, fun _ h => by omega, fun _ h => by omega, fun _ h => by omega, fun _ h => by omega, fun _ h => by omega, fun _ h => by omega, fun _ h => by omega, fun _ h => by omega, fun _ h => by omega, fun _ h => by omega⟩
  · intro t u e
    rw [hi]
    have : F0.get t = some u := by
      rw [hF, flocs_eq] at e
      simp only [AFrame.get] at e ⊢
      cases hb : tb F0.mask t with
      | true => rw [hb] at e; exact e
      | false => rw [hb] at e; simp [lk_nil] at e
    exact ⟨_, by simp only [sv, this]; rfl⟩
  · rw [hi, hS]; rfl
  · intro id; rw [hi, hS]; simp only [ov]; cases S0.get id <;> rfl
  · intro j hj; omega
  · intro j hj; omega
  · intro j c h; rw [hc] at h; simp at h
  · rw [hF, flocs_eq]; exact ⟨rfl, rfl, rfl, rfl, rfl, rfl, rfl⟩

/- The end of a drawn region. -/
theorem DI.over {P : Program} (hmix : P.follows .mixedOrders = true) {F0 : AFrame} {S0 : Sto} {D : DSt} {E E' : Nat → Sto} {v : Nat → AV} {ch : Nat → Nat → Option (Option AObj)} (h : DI P F0 S0 D E E' v ch) (ho : D.os = []) {G : AFrame → Sto → Prop}
    (hr : Reach P (flocs D.F D.F.todo) D.S G) : Reach P F0 S0 G := by
  have hn : D.i = D.ops.size := by
    have h1 := h.os
    rw [ho] at h1
    have := List.drop_eq_nil_iff.1 h1.symm
    simp at this
    have := h.hi
    omega
  obtain ⟨id, ht⟩ := h.todo
  obtain ⟨k1, k2, k3, k4, k5, k6, k7⟩ := h.keep
  exact Reach.drawn hmix h.mode ht h.dp hn (regOk_edges h.ok) (fun i j oi oj _ hj hp ho ho' => regOk_apart h.ok i j oi oj hj hp ho ho') (F' := flocs D.F D.F.todo) ⟨k1, rfl, k2, k3⟩ k4 k5 k6 k7
    (fun t u e => by
      have : D.F.get t = some u := by
        rw [flocs_eq] at e
        simp only [AFrame.get] at e ⊢
        cases hb : tb D.F.mask t with
        | true => rw [hb] at e; exact e
        | false => rw [hb] at e; simp [lk_nil] at e
      exact h.slots t u this) h.nx h.lim h.get hr


/- What is known of the stores ahead of an operation and behind it. -/
structure Facts (E E' : Sto) : Prop where
  nx : E.nx ≤ E'.nx
  lim : E'.lim = E.lim
  prot : ∀ id, id < E.lim → E'.get id = E.get id
  dead : ∀ id, id < E.nx → E.get id = none → E'.get id = none
  wf : ∀ id o, E'.get id = some o → id < E'.nx

theorem DJ.init {ops : Array Oper} {F : AFrame} {S : Sto} {E' : Nat → Sto} {v : Nat → AV} {ch : Nat → Nat → Option (Option AObj)} {P : Program} {g : Gh} {w : World} {fr : Frame} (hf : FrR P g F fr) (hi : Inv S g w) (td : List Item) (n : Nat) :
    DJ ops F S E' v ch (fun _ => false) n g w fr g w { fr with todo := td } := by
  have hsvb : ∀ m t, sv ops F S E' v (fun _ => false) m t = sv ops F S E' v (fun _ => false) 0 t := by
    intro m t
    exact sv_up (i := 0) (Nat.zero_le _) (fun j _ _ e => by simp at e)
  have hovb : ∀ m id, ov S E' ch (fun _ => false) m id = ov S E' ch (fun _ => false) 0 id := by
    intro m id
    exact ov_up (i := 0) (Nat.zero_le _) (fun j _ _ e => by simp at e)
  have hcut : ∀ {id l}, g.ph id = some l → (g.cut S.nx).ph id = some l := fun e => Gh.cut_of (hi.lt_nx e) e
  have hcl : Gh.le g (g.cut S.nx) := ⟨fun _ _ e => e, fun _ _ e => hcut e⟩
  refine ⟨?_, ?_, ?_, hi.ro, fun id l e => .inl (hi.lt_nx e), Nat.le_refl _, rfl, rfl, rfl, fun _ _ _ => rfl, ?_, Gh.le_refl _, fun _ _ => rfl, fun _ _ e _ => .inl e, fun _ => rfl, hf.size, rfl⟩
  · intro t u st e
    rw [hsvb] at e
    simp only [sv] at e
    split at e <;> simp only [Option.some.injEq, Prod.mk.injEq, reduceCtorEq] at e
    rename_i u' hu
    obtain ⟨rfl, rfl⟩ := e
    obtain ⟨x, a, b⟩ := hf.get t _ hu
    exact ⟨x, a, b.mono hcl⟩
  · intro id o st e
    rw [hovb] at e
    simp only [ov] at e
    split at e <;> simp only [Option.some.injEq, Prod.mk.injEq, reduceCtorEq] at e
    rename_i o' ho
    obtain ⟨rfl, rfl⟩ := e
    obtain ⟨l, a, b, c⟩ := hi.ob id _ ho
    exact ⟨l, hcut a, b, c.mono hcl⟩
  · intro id id' o o' st st' l l' e e' p p' hb
    rw [hovb] at e e'
    simp only [ov] at e e'
    split at e <;> simp only [Option.some.injEq, Prod.mk.injEq, reduceCtorEq] at e
    rename_i o1 ho1
    split at e' <;> simp only [Option.some.injEq, Prod.mk.injEq, reduceCtorEq] at e'
    rename_i o2 ho2
    exact hi.inj id id' o1 o2 l l' ho1 ho2 p p' hb
  · intro id o st l e hl hp hlt
    rw [hovb] at e
    simp only [ov] at e
    split at e <;> simp only [Option.some.injEq, Prod.mk.injEq, reduceCtorEq] at e
    rename_i o1 ho1
    exact ⟨id, o1, l, ho1, hl, hp, rfl⟩

theorem Edges.lt {ops : Array Oper} {pm : Nat → Nat → Bool} (h : Edges ops pm) : ∀ i j, pm i j = true → j < i := by
  intro i
  induction i using Nat.strongRecOn with
  | _ i ih =>
    intro j hp
    obtain ⟨o, e, a, b, c, d⟩ := h.up i j hp
    have := h.low i o e a b c
    rcases d with d | d
    · omega
    · have := ih e.on this j d; omega

/- A world in which the operations that are done have been done. -/
theorem DI.inst {P : Program} {F0 : AFrame} {S0 : Sto} {D : DSt} {E E' : Nat → Sto} {v : Nat → AV} {ch : Nat → Nat → Option (Option AObj)} (h : DI P F0 S0 D E E' v ch) {g : Gh} {w : World} {fr : Frame} (hf : FrR P g F0 fr) (hi : Inv S0 g w) :
    ∃ (fr' : Frame) (w' : World) (g' : Gh), fr'.mode = .run ∧ fr'.todo = [.inRegion D.ops [D.i]] ∧ Inv D.S g' w' ∧ ∀ t u, D.F.get t = some u → ∃ x, fr'.tmps[t]? = some x ∧ VR g' u x := by
  have hrun := hf.runs h.mode
  have he := regOk_edges h.ok
  have key : ∀ k, k ≤ D.i → ∃ (fr' : Frame) (w' : World) (g' : Gh), DJ D.ops F0 S0 E' v ch (fun j => decide (j < k)) D.i g w fr g' w' fr' ∧ fr'.todo = [.inRegion D.ops (List.range' k (D.i + 1 - k))] := by
    intro k
    induction k with
    | zero =>
      intro _
      exact ⟨{ fr with todo := [.inRegion D.ops (List.range' 0 (D.i + 1 - 0))] }, w, g, (DJ.init hf hi _ _).congr fun j _ => by simp, rfl⟩
    | succ k ih =>
      intro hk
      obtain ⟨fr1, w1, g1, a, b⟩ := ih (by omega)
      rw [show D.i + 1 - k = (D.i + 1 - (k + 1)) + 1 from by omega, List.range'_succ] at b
      obtain ⟨fr2, w2, g2, _, b2, a2⟩ := a.step (cs := []) h.dp h.hi (fun i j oi oj _ hj hp ho ho' => regOk_apart h.ok i j oi oj hj hp ho ho') (fun id o e => hi.get_lt e) (i := k) (by omega) (by simp)
        (fun j hj => by
          have hj : j < k := by simpa using hj
          exact ⟨by omega, fun l hl => by have := he.lt j l hl; simp; omega⟩) (fun j hj => by have := he.lt k j hj; simpa using this) hrun b
      refine ⟨fr2, w2, g2, a2.congr fun j _ => ?_, b2⟩
      by_cases e : j = k
      · subst e; rw [addX_same]; simp
      · rw [addX_ne _ e]; simp only [decide_eq_decide]; omega
  obtain ⟨fr1, w1, g1, a, b⟩ := key D.i (Nat.le_refl _)
  have s3 := a.congr (Y := fun _ => true) fun j hj => by simpa using hj
  have hmode : fr1.mode = .run := by rw [a.frame]; exact hrun
  refine ⟨fr1, w1, g1, hmode, by rw [b, show D.i + 1 - D.i = 1 from by omega]; rfl, ⟨s3.ro, ?_, ?_, ?_⟩, ?_⟩
  · intro id o e
    rw [h.get] at e
    split at e <;> simp only [Option.some.injEq, reduceCtorEq] at e
    rename_i o' st e'
    subst e
    obtain ⟨l, a, b, c⟩ := s3.ob id _ st e'
    exact ⟨l, (Gh.cut_lt a).2, b, c.mono (Gh.cut_le _ _)⟩
  · intro id id' o o' l l' e e' p p' hb
    rw [h.get] at e e'
    split at e <;> simp only [Option.some.injEq, reduceCtorEq] at e
    rename_i o1 st1 e1
    split at e' <;> simp only [Option.some.injEq, reduceCtorEq] at e'
    rename_i o2 st2' e2
    exact s3.inj id id' o1 o2 st1 st2' l l' e1 e2 p p' hb
  · intro id hid
    cases e : g1.ph id with
    | none => rfl
    | some l =>
      exfalso
      rw [h.nx] at hid
      rcases s3.dom id l e with q | ⟨j, q1, _, _, q3⟩
      · have := nn_mono h.dp (Nat.zero_le D.i) (Nat.le_refl _)
        have h0 : nn S0 E' 0 = S0.nx := rfl
        omega
      · have := nn_mono h.dp (show j + 1 ≤ D.i by omega) (Nat.le_refl _)
        omega
  · intro t u e
    obtain ⟨st, e'⟩ := h.slots t u e
    obtain ⟨x, a, b⟩ := s3.slots t u st e'
    exact ⟨x, a, b.mono (Gh.cut_le _ _)⟩

theorem Inv.less {A B : Sto} {g : Gh} {w : World} (hn : A.nx = B.nx) (hg : ∀ id o, A.get id = some o → B.get id = some o) (h : Inv B g w) : Inv A g w :=
  ⟨h.ro, fun id o e => h.ob id o (hg id o e), fun id id' o o' l l' e e' => h.inj id id' o o' l l' (hg _ _ e) (hg _ _ e'), fun id hid => h.fresh id (by rw [← hn]; exact hid)⟩

theorem DI.facts {P : Program} {F0 : AFrame} {S0 : Sto} {D : DSt} {E E' : Nat → Sto} {v : Nat → AV} {ch : Nat → Nat → Option (Option AObj)} (h : DI P F0 S0 D E E' v ch) {g : Gh} {w : World} {fr : Frame} (hf : FrR P g F0 fr) (hi : Inv S0 g w)
    {o : Oper} {os : List Oper} (ho : D.os = o :: os) {En En' : Sto} {vn : AV} (hop : OpC P D.ops o D.F.get En vn En') (hn : En.nx = D.S.nx) (hg : ∀ id ob, En.get id = some ob → D.S.get id = some ob) : Facts En En' := by
  obtain ⟨fr1, w1, g1, a, b, c, d⟩ := h.inst hf hi
  obtain ⟨w2, g2, x, _, _, i2, e2⟩ := hop g1 w1 fr1 [] D.i [] [] a b (h.here ho).1 (fun t _ u e => d t u e) (c.less hn hg)
  exact ⟨e2.nx, e2.lim, e2.prot, e2.dead, fun id o e => i2.get_lt e⟩

end
end Go.Eng

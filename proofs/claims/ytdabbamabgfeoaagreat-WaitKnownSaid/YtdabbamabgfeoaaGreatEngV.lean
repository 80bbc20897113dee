/- Operations and calls of drawn regions: what the machine does is one more operation; no conditions. -/
import Derived.Test.YtdabbamabgfeoaaGreatEngU
namespace Go.Eng
noncomputable section

theorem lkC_append (a b : Chg) (id : Nat) : lkC (a ++ b) id = (lkC a id || lkC b id) := by
  induction a with
  | nil => rfl
  | cons p r ih =>
    obtain ⟨k, o⟩ := p
    simp only [List.cons_append, lkC]
    cases Nat.beq k id with
    | true => rfl
    | false => exact ih
theorem lkC_mem {c : Chg} {id : Nat} (h : lkC c id = true) : ∃ ob, (id, ob) ∈ c := by
  induction c with
  | nil => simp [lkC] at h
  | cons p r ih =>
    obtain ⟨k, o⟩ := p
    simp only [lkC] at h
    cases hb : Nat.beq k id with
    | true =>
      have : k = id := Nat.eq_of_beq_eq_true hb
      subst this; exact ⟨o, List.mem_cons_self ..⟩
    | false =>
      rw [hb] at h
      obtain ⟨ob, q⟩ := ih h
      exact ⟨ob, List.mem_cons_of_mem _ q⟩
theorem lkC_of {c : Chg} {id : Nat} {ob : Option AObj} (h : (id, ob) ∈ c) : lkC c id = true := by
  induction c with
  | nil => simp at h
  | cons p r ih =>
    obtain ⟨k, o⟩ := p
    simp only [lkC]
    rcases List.mem_cons.1 h with e | h
    · simp only [Prod.mk.injEq] at e
      rw [← e.1, Nat.beq_refl]
    · cases Nat.beq k id with
      | true => rfl
      | false => exact ih h

/- Changes, with what they lead to. -/
def ChgOk (c : Chg) (G : Sto) : Prop := ∀ id ob, (id, ob) ∈ c → id < 8192 ∧ ∀ x, ob = some x → G.get id = some x
theorem ChgOk.lt {c : Chg} {G : Sto} (h : ChgOk c G) {id : Nat} (e : lkC c id = true) : id < 8192 := let ⟨ob, q⟩ := lkC_mem e; (h id ob q).1
theorem ChgOk.append {a b : Chg} {G : Sto} (h : ChgOk a G) (h' : ChgOk b G) : ChgOk (a ++ b) G := by
  intro id ob e
  rcases List.mem_append.1 e with q | q
  · exact h id ob q
  · exact h' id ob q

theorem putC_out {id : Nat} (hi : id < 8192) : ∀ {c : Chg} {m : PT}, (∀ k ob, (k, ob) ∈ c → k < 8192) → lkC c id = false → PT.get dep (putC m c) id = PT.get dep m id := by
  intro c
  induction c with
  | nil => intro m _ _; rfl
  | cons p r ih =>
    obtain ⟨k, o⟩ := p
    intro m hk h
    simp only [lkC] at h
    split at h
    · simp at h
    · rename_i hb
      simp only [putC]
      rw [ih (fun a b q => hk a b (List.mem_cons_of_mem _ q)) h]
      exact PT.get_set_other dep m k id o (hk k o (List.mem_cons_self ..)) hi (by rintro rfl; rw [Nat.beq_refl] at hb; simp at hb)
theorem putC_in {id : Nat} (hi : id < 8192) : ∀ {c : Chg} {m : PT}, (∀ k ob, (k, ob) ∈ c → k < 8192) → lkC c id = true → ∃ ob, (id, ob) ∈ c ∧ PT.get dep (putC m c) id = ob := by
  intro c
  induction c with
  | nil => intro m _ h; simp [lkC] at h
  | cons p r ih =>
    obtain ⟨k, o⟩ := p
    intro m hk h
    have hk' : ∀ a b, (a, b) ∈ r → a < 8192 := fun a b q => hk a b (List.mem_cons_of_mem _ q)
    simp only [putC]
    cases hr : lkC r id with
    | true =>
      obtain ⟨ob, q1, q2⟩ := ih (m := PT.set dep m k o) hk' hr
      exact ⟨ob, List.mem_cons_of_mem _ q1, q2⟩
    | false =>
      simp only [lkC] at h
      split at h
      · rename_i hb
        have : k = id := Nat.eq_of_beq_eq_true hb
        subst this
        refine ⟨o, List.mem_cons_self .., ?_⟩
        rw [putC_out hi hk' hr]
        exact PT.get_set_same _ _ _ _
      · rw [hr] at h; simp at h

theorem clearOf_get {pi : Nat} {id : Nat} : ∀ {l : List (Nat × ChS)}, clearOf pi l id = true → ∀ j c, (j, c) ∈ l → tb pi j = false → c.has id = false := by
  intro l
  induction l with
  | nil => intro _ j c h; simp at h
  | cons p r ih =>
    obtain ⟨k, d⟩ := p
    intro h j c hm ht
    simp only [clearOf] at h
    have hd : tb pi k = false → d.has id = false := by
      intro e; rw [e] at h
      cases q : d.has id with
      | false => rfl
      | true => rw [q] at h; simp at h
    have hr : clearOf pi r id = true := by
      cases e : tb pi k with
      | true => rw [e] at h; exact h
      | false => rw [e, hd e] at h; exact h
    rcases List.mem_cons.1 hm with e | hm
    · simp only [Prod.mk.injEq] at e; obtain ⟨rfl, rfl⟩ := e; exact hd ht
    · exact ih hr j c hm ht
theorem unseen_get {pi : Nat} {id : Nat} : ∀ {l : List (Nat × Sto)}, unseen pi l id = true → ∀ j E, (j, E) ∈ l → tb pi j = false → E.get id = none := by
  intro l
  induction l with
  | nil => intro _ j c h; simp at h
  | cons p r ih =>
    obtain ⟨k, d⟩ := p
    intro h j c hm ht
    simp only [unseen] at h
    have hd : tb pi k = false → d.get id = none := by
      intro e; rw [e] at h
      cases q : d.get id with
      | none => rfl
      | some x => rw [q] at h; simp at h
    have hr : unseen pi r id = true := by
      cases e : tb pi k with
      | true => rw [e] at h; exact h
      | false => rw [e, hd e] at h; exact h
    rcases List.mem_cons.1 hm with e | hm
    · simp only [Prod.mk.injEq] at e; obtain ⟨rfl, rfl⟩ := e; exact hd ht
    · exact ih hr j c hm ht
theorem allUnseen_get {pi nx : Nat} {es : List (Nat × Sto)} : ∀ {l : List Nat}, allUnseen pi es nx l = true → ∀ id, id ∈ l → id < nx → unseen pi es id = true := by
  intro l
  induction l with
  | nil => intro _ id h; simp at h
  | cons k r ih =>
    intro h id hm hlt
    simp only [allUnseen] at h
    have hr : allUnseen pi es nx r = true := by
      split at h
      · exact h
      · split at h
        · exact h
        · simp at h
    rcases List.mem_cons.1 hm with rfl | hm
    · split at h
      · rename_i hb
        have := Nat.le_of_ble_eq_true hb
        omega
      · split at h
        · assumption
        · simp at h
    · exact ih hr id hm hlt
theorem allIn_get {pi : Nat} : ∀ {l : List (Nat × Sto)}, allIn pi l = true → ∀ j E, (j, E) ∈ l → tb pi j = true := by
  intro l
  induction l with
  | nil => intro _ j E h; simp at h
  | cons p r ih =>
    obtain ⟨k, d⟩ := p
    intro h j E hm
    simp only [allIn] at h
    split at h
    · rename_i e
      rcases List.mem_cons.1 hm with q | hm
      · simp only [Prod.mk.injEq] at q; obtain ⟨rfl, rfl⟩ := q; exact e
      · exact ih h j E hm
    · simp at h

/- The objects that may be seen. -/
theorem seen_get {S : Sto} {pi : Nat} {chs : List (Nat × ChS)} {id : Nat} {o : AObj} (hi : id < 8192) : ∀ {ids : List Nat} {m : PT}, PT.get dep (seen S pi chs ids m) id = some o →
    PT.get dep m id = some o ∨ (id ∈ ids ∧ S.get id = some o ∧ clearOf pi chs id = true) := by
  intro ids
  induction ids with
  | nil => intro m h; exact .inl h
  | cons k r ih =>
    intro m h
    simp only [seen] at h
    have up : ∀ {m}, PT.get dep (seen S pi chs r m) id = some o → PT.get dep m id = some o ∨ (id ∈ k :: r ∧ S.get id = some o ∧ clearOf pi chs id = true) := by
      intro m h
      rcases ih h with q | ⟨q1, q2, q3⟩
      · exact .inl q
      · exact .inr ⟨List.mem_cons_of_mem _ q1, q2, q3⟩
    split at h
    · rename_i hc
      split at h
      · rename_i ob hob
        have hk := Sto.lt_of_get hob
        rcases up h with q | q
        · by_cases e : k = id
          · subst e
            rw [PT.get_set_same] at q
            simp only [Option.some.injEq] at q
            subst q
            exact .inr ⟨List.mem_cons_self .., hob, hc⟩
          · rw [PT.get_set_other dep m k id _ hk hi e] at q
            exact .inl q
        · exact .inr q
      · exact up h
    · exact up h
theorem hide_get {id : Nat} {o : AObj} (hi : id < 8192) : ∀ {l : List Nat} {m : PT}, (∀ k, k ∈ l → k < 8192) → PT.get dep (hide m l) id = some o → id ∉ l ∧ PT.get dep m id = some o := by
  intro l
  induction l with
  | nil => intro m _ h; exact ⟨by simp, h⟩
  | cons k r ih =>
    intro m hk h
    obtain ⟨q1, q2⟩ := ih (m := PT.set dep m k none) (fun a b => hk a (List.mem_cons_of_mem _ b)) h
    by_cases e : k = id
    · subst e; rw [PT.get_set_same] at q2; simp at q2
    · rw [PT.get_set_other dep m k id _ (hk k (List.mem_cons_self ..)) hi e] at q2
      exact ⟨by simp only [List.mem_cons, not_or]; exact ⟨fun q => e q.symm, q1⟩, q2⟩
theorem rehide_get {S : Sto} {id : Nat} (hi : id < 8192) : ∀ {l : List Nat} {m : PT}, (∀ k, k ∈ l → k < 8192) → PT.get dep (rehide S m l) id = if id ∈ l then S.get id else PT.get dep m id := by
  intro l
  induction l with
  | nil => intro m _; simp [rehide]
  | cons k r ih =>
    intro m hk
    simp only [rehide]
    rw [ih fun a b => hk a (List.mem_cons_of_mem _ b)]
    by_cases hr : id ∈ r
    · rw [if_pos hr, if_pos (List.mem_cons_of_mem _ hr)]
    · rw [if_neg hr]
      by_cases e : k = id
      · subst e; rw [PT.get_set_same, if_pos (List.mem_cons_self ..)]
      · rw [PT.get_set_other dep m k id _ (hk k (List.mem_cons_self ..)) hi e, if_neg (by simp only [List.mem_cons, not_or]; exact ⟨fun q => e q.symm, hr⟩)]
theorem hidden_get {pi : Nat} : ∀ {l : List (Nat × ChS)} {hid : List Nat}, hidden pi l = some hid → (∀ j c, (j, c) ∈ l → tb pi j = false → ∀ id, c.has id = true → id ∈ hid) ∧ ∀ id, id ∈ hid → ∃ j c, (j, ChS.lst c) ∈ l ∧ lkC c id = true := by
  intro l
  induction l with
  | nil => intro hid h; simp only [hidden, Option.some.injEq] at h; subst h; exact ⟨fun j c q => by simp at q, fun id q => by simp at q⟩
  | cons p r ih =>
    obtain ⟨k, d⟩ := p
    intro hid h
    simp only [hidden] at h
    cases e : tb pi k with
    | true =>
      rw [e] at h
      obtain ⟨q1, q2⟩ := ih h
      refine ⟨fun j c hm ht id hc => ?_, fun id hm => let ⟨j, c, a, b⟩ := q2 id hm; ⟨j, c, List.mem_cons_of_mem _ a, b⟩⟩
      rcases List.mem_cons.1 hm with q | hm
      · simp only [Prod.mk.injEq] at q; obtain ⟨rfl, rfl⟩ := q; rw [e] at ht; simp at ht
      · exact q1 j c hm ht id hc
    | false =>
      rw [e] at h
      cases d with
      | wide a b => simp at h
      | lst c =>
        simp only at h
        cases hr : hidden pi r with
        | none => rw [hr] at h; simp at h
        | some l =>
          rw [hr] at h
          simp only [Option.some.injEq] at h
          subst h
          obtain ⟨q1, q2⟩ := ih hr
          refine ⟨fun j c' hm ht id hc => ?_, fun id hm => ?_⟩
          · rcases List.mem_cons.1 hm with q | hm
            · simp only [Prod.mk.injEq] at q; obtain ⟨rfl, rfl⟩ := q
              obtain ⟨ob, q⟩ := lkC_mem (show lkC c id = true from hc)
              exact List.mem_append.2 (.inl (List.mem_map.2 ⟨_, q, rfl⟩))
            · exact List.mem_append.2 (.inr (q1 j c' hm ht id hc))
          · rcases List.mem_append.1 hm with q | q
            · obtain ⟨⟨k', ob⟩, a, b⟩ := List.mem_map.1 q
              simp only at b; subst b
              exact ⟨k, c, List.mem_cons_self .., lkC_of a⟩
            · obtain ⟨j, c', a, b⟩ := q2 id q
              exact ⟨j, c', List.mem_cons_of_mem _ a, b⟩

theorem oldIds_get {E S : Sto} : ∀ {ids : List Nat} {id : Nat} {ob : Option AObj}, (id, ob) ∈ oldIds E S ids → id ∈ ids ∧ E.get id ≠ none ∧ ob = S.get id := by
  intro ids
  induction ids with
  | nil => intro id ob h; simp [oldIds] at h
  | cons k r ih =>
    intro id ob h
    simp only [oldIds] at h
    split at h
    · rename_i x hx
      rcases List.mem_cons.1 h with q | h
      · simp only [Prod.mk.injEq] at q
        obtain ⟨rfl, rfl⟩ := q
        exact ⟨List.mem_cons_self .., by rw [hx]; simp, rfl⟩
      · obtain ⟨a, b⟩ := ih h; exact ⟨List.mem_cons_of_mem _ a, b⟩
    · obtain ⟨a, b⟩ := ih h; exact ⟨List.mem_cons_of_mem _ a, b⟩
theorem oldIds_of {E S : Sto} : ∀ {ids : List Nat} {id : Nat}, id ∈ ids → E.get id ≠ none → lkC (oldIds E S ids) id = true := by
  intro ids
  induction ids with
  | nil => intro id h; simp at h
  | cons k r ih =>
    intro id h hE
    simp only [oldIds]
    cases hk : E.get k with
    | some x =>
      simp only [lkC]
      cases hb : Nat.beq k id with
      | true => rfl
      | false =>
        rcases List.mem_cons.1 h with rfl | h
        · rw [Nat.beq_refl] at hb; simp at hb
        · exact ih h hE
    | none =>
      rcases List.mem_cons.1 h with rfl | h
      · exact absurd hk hE
      · exact ih h hE
theorem newIds_get {E : Sto} {n : Nat} : ∀ {k id : Nat} {ob : Option AObj}, (id, ob) ∈ newIds E n k → n ≤ id ∧ id < n + k ∧ E.get id ≠ none ∧ ob = E.get id := by
  intro k
  induction k with
  | zero => intro id ob h; simp [newIds] at h
  | succ k ih =>
    intro id ob h
    simp only [newIds] at h
    split at h
    · rename_i x hx
      rcases List.mem_cons.1 h with q | h
      · simp only [Prod.mk.injEq] at q
        obtain ⟨rfl, rfl⟩ := q
        exact ⟨by omega, by omega, by rw [hx]; simp, hx.symm⟩
      · obtain ⟨a, b, c⟩ := ih h; exact ⟨a, by omega, c⟩
    · obtain ⟨a, b, c⟩ := ih h; exact ⟨a, by omega, c⟩
theorem gobj_get {E : Sto} {lo id : Nat} {acc : Chg} {o : AObj} (h : gobj E lo acc id = some o) : lo ≤ id ∧ E.get id = some o := by
  unfold gobj at h
  split at h <;> try (simp at h; done)
  rename_i h1
  split at h <;> try (simp at h; done)
  exact ⟨Nat.le_of_ble_eq_true h1, h⟩
theorem gather_get {E : Sto} {lo : Nat} : ∀ {n : Nat} {l : List AV} {acc : Chg} {id : Nat} {ob : Option AObj}, (id, ob) ∈ gather E lo n l acc → (id, ob) ∈ acc ∨ (lo ≤ id ∧ E.get id ≠ none ∧ ob = E.get id) := by
  intro n
  induction n with
  | zero => intro l acc id ob h; exact .inl (by cases l <;> exact h)
  | succ n ih =>
    intro l acc id ob h
    cases l with
    | nil => exact .inl h
    | cons v r =>
      simp only [gather] at h
      split at h
      · exact ih h
      · split at h
        · rename_i o ho
          obtain ⟨a, c⟩ := gobj_get ho
          rcases ih h with q | q
          · rcases List.mem_cons.1 q with q | q
            · simp only [Prod.mk.injEq] at q
              obtain ⟨rfl, rfl⟩ := q
              exact .inr ⟨a, by rw [c]; simp, c.symm⟩
            · exact .inl q
          · exact .inr q
        · exact ih h

section
variable {P : Program} {F0 : AFrame} {S0 : Sto} {D : DSt} {E E' : Nat → Sto} {v : Nat → AV} {ch : Nat → Nat → Option (Option AObj)} {o : Oper} {os : List Oper}

/- What no operation that is not bound ahead has changed. -/
theorem DI.clear (h : DI P F0 S0 D E E' v ch) {pi id : Nat} (hc : clearOf pi D.chs id = true) : ∀ j, j < D.i → tb pi j = false → ch j id = none := by
  intro j hj ht
  cases e : ch j id with
  | none => rfl
  | some r =>
    obtain ⟨c, a, b⟩ := h.chs j hj id (by rw [e]; simp)
    rw [clearOf_get hc j c a ht] at b
    simp at b
theorem DI.unsee (h : DI P F0 S0 D E E' v ch) {pi id : Nat} (hc : unseen pi D.es id = true) : ∀ j, j < D.i → tb pi j = false → (E j).get id = none := by
  intro j hj ht
  cases e : (E j).get id with
  | none => rfl
  | some r =>
    have := unseen_get hc j _ (h.es j hj id (by rw [e]; simp)) ht
    rw [e] at this; simp at this

theorem DI.next (h : DI P F0 S0 D E E' v ch) (ho : D.os = o :: os) {En En' : Sto} {vn : AV} {c : Chg} {Eo : Option Sto}
    (hop : OpC P D.ops o D.F.get En vn En') (hnx : En.nx = D.S.nx) (hmono : En.nx ≤ En'.nx) (hlim : D.S.lim ≤ En.lim)
    (hsee : ∀ id ob, En.get id = some ob → D.S.get id = some ob ∧ ∀ j, j < D.i → tb (edgeMask D.pms o.after.toList) j = false → ch j id = none)
    (hR : ∀ id, lkC c id = true → id < D.S.nx → unseen (edgeMask D.pms o.after.toList) D.es id = true)
    (hok : ChgOk c En') (hC : ∀ id ob, En.get id = some ob → En.lim ≤ id → lkC c id = true)
    (hL : ∀ id, lkC c id = true → En.lim ≤ id ∧ id < En'.nx ∧ (En.get id ≠ none ∨ En.nx ≤ id))
    (hEo : Eo = some En ∨ (Eo = none ∧ ∀ id, En.get id = none)) :
    ∃ E E' v ch, DI P F0 S0 (D.next o os (edgeMask D.pms o.after.toList) vn En'.nx c Eo) E E' v ch := by
  have hsm : ∀ k ob, (k, ob) ∈ c → k < 8192 := fun k ob q => (hok k ob q).1
  obtain ⟨chn, hchn⟩ : ∃ f : Nat → Option (Option AObj), f = fun id => if lkC c id = true then some (PT.get dep (putC D.S.m c) id) else none := ⟨_, rfl⟩
  have h1 : ∀ id, chn id ≠ none → lkC c id = true := by
    intro id e
    rw [hchn] at e
    by_cases q : lkC c id = true
    · exact q
    · exact absurd (if_neg q) e
  have h2 : ∀ id, lkC c id = true → chn id = some (PT.get dep (putC D.S.m c) id) := by intro id q; rw [hchn]; simp [q]
  refine ⟨_, _, _, _, h.step ho (chn := chn) (vn := vn) rfl hop hnx hmono hlim hsee ?_ ?_ ?_ ?_ ?_ rfl rfl rfl rfl rfl rfl rfl ?_ ?_ ?_ ?_ ?_ ?_⟩
  · intro j hj ht id e hlt
    exact h.unsee (hR id (h1 id e) hlt) j hj ht
  · intro id ob e
    have hc := h1 id (by rw [e]; simp)
    rw [h2 id hc] at e
    obtain ⟨ob', a, b⟩ := putC_in (m := D.S.m) (hok.lt hc) hsm hc
    rw [b] at e
    simp only [Option.some.injEq] at e
    exact (hok id ob' a).2 ob e
  · intro id ob e hl
    rw [h2 id (hC id ob e hl)]; simp
  · intro id e
    obtain ⟨a, b, _⟩ := hL id (h1 id e)
    exact ⟨a, b⟩
  · intro id e
    exact (hL id (h1 id e)).2.2
  · intro id
    by_cases hid : id < 8192
    · rw [Sto.get_small hid]
      show PT.get dep (putC D.S.m c) id = _
      cases q : lkC c id with
      | true => rw [h2 id q]
      | false =>
        rw [putC_out hid hsm q]
        have : chn id = none := by rw [hchn]; simp [q]
        rw [this]
        exact (Sto.get_small hid).symm
    · rw [Sto.get_big hid]
      cases q : chn id with
      | none => exact (Sto.get_big hid).symm
      | some r => exact absurd (hok.lt (h1 id (by rw [q]; simp))) hid
  · intro id e
    have hc := h1 id e
    refine ⟨.lst c, ?_, hc⟩
    simp only [DSt.next, chgs, sees]
    cases c with
    | nil => simp [lkC] at hc
    | cons p r => exact List.mem_cons_self ..
  · intro p hp
    simp only [DSt.next, chgs, sees]
    cases c with
    | nil => exact hp
    | cons q r => exact List.mem_cons_of_mem _ hp
  · intro j c' hm id hc
    simp only [DSt.next, chgs, sees] at hm
    cases c with
    | nil => exact h.small j c' hm id hc
    | cons q r =>
      rcases List.mem_cons.1 hm with e | e
      · simp only [Prod.mk.injEq, ChS.lst.injEq] at e
        obtain ⟨rfl, rfl⟩ := e
        exact hok.lt hc
      · exact h.small j c' e id hc
  · intro id e
    rcases hEo with rfl | ⟨rfl, q⟩
    · exact List.mem_cons_self ..
    · exact absurd (q id) e
  · intro p hp
    simp only [DSt.next, chgs, sees]
    cases Eo with
    | none => exact hp
    | some _ => exact List.mem_cons_of_mem _ hp

theorem DI.lim_nx (h : DI P F0 S0 D E E' v ch) : D.S.lim ≤ D.S.nx := by
  have := nn_mono h.dp (Nat.zero_le D.i) (Nat.le_refl _)
  have h0 : nn S0 E' 0 = S0.nx := rfl
  have := h.liml
  rw [h.lim, h.nx]; omega

/- The changes of a call, or of an operation that is no call: objects that it saw, and new ones. -/
theorem DI.news (h : DI P F0 S0 D E E' v ch) (hS : ∀ id o, S0.get id = some o → id < S0.nx) (ho : D.os = o :: os) {En En' : Sto} {vn : AV} {ids : List Nat} {nw : Chg} {Eo : Option Sto}
    (hop : OpC P D.ops o D.F.get En vn En') (fx : Facts En En') (hnx : En.nx = D.S.nx) (hlim : En.lim = D.S.lim ∨ En.lim = D.S.nx)
    (hget : ∀ id ob, En.get id = some ob → D.S.get id = some ob ∧ ∀ j, j < D.i → tb (edgeMask D.pms o.after.toList) j = false → ch j id = none)
    (hids : ∀ id ob, En.get id = some ob → En.lim ≤ id → id < En.nx → id ∈ ids) (hidl : ∀ id, id ∈ ids → En.get id ≠ none → En.lim ≤ id)
    (hun : ∀ id, id ∈ ids → En.get id ≠ none → id < D.S.nx → unseen (edgeMask D.pms o.after.toList) D.es id = true)
    (hnw : ∀ id ob, (id, ob) ∈ nw → En.nx ≤ id ∧ En'.get id ≠ none ∧ ob = En'.get id)
    (hEo : Eo = some En ∨ (Eo = none ∧ ∀ id, En.get id = none)) :
    ∃ E E' v ch, DI P F0 S0 (D.next o os (edgeMask D.pms o.after.toList) vn En'.nx (oldIds En En' ids ++ nw) Eo) E E' v ch := by
  have hll := h.lim_nx
  have hmem : ∀ {id}, lkC (oldIds En En' ids ++ nw) id = true → (id ∈ ids ∧ En.get id ≠ none) ∨ (En.nx ≤ id ∧ En'.get id ≠ none) := by
    intro id e
    rw [lkC_append, Bool.or_eq_true] at e
    rcases e with e | e
    · obtain ⟨ob, q⟩ := lkC_mem e
      obtain ⟨a, b, _⟩ := oldIds_get q
      exact .inl ⟨a, b⟩
    · obtain ⟨ob, q⟩ := lkC_mem e
      obtain ⟨a, b, _⟩ := hnw id ob q
      exact .inr ⟨a, b⟩
  have hwf : ∀ {id}, En.get id ≠ none → id < En.nx := by
    intro id e
    cases q : En.get id with
    | none => exact absurd q e
    | some ob => rw [hnx]; exact h.wf hS (hget id ob q).1
  refine h.next ho hop hnx fx.nx (by rcases hlim with e | e <;> omega) hget ?_ ?_ ?_ ?_ hEo
  · intro id e hlt
    rcases hmem e with ⟨a, b⟩ | ⟨a, _⟩
    · exact hun id a b hlt
    · omega
  · refine ChgOk.append (fun id ob q => ?_) fun id ob q => ?_
    · obtain ⟨a, b, c⟩ := oldIds_get q
      refine ⟨?_, fun x hx => by rw [← c]; exact hx⟩
      cases e : En.get id with
      | none => exact absurd e b
      | some y => exact Sto.lt_of_get e
    · obtain ⟨a, b, c⟩ := hnw id ob q
      refine ⟨?_, fun x hx => by rw [← c]; exact hx⟩
      cases e : En'.get id with
      | none => exact absurd e b
      | some y => exact Sto.lt_of_get e
  · intro id ob e hl
    rw [lkC_append, oldIds_of (hids id ob e hl (hwf (by rw [e]; simp))) (by rw [e]; simp), Bool.true_or]
  · intro id e
    rcases hmem e with ⟨a, b⟩ | ⟨a, b⟩
    · exact ⟨hidl id a b, Nat.lt_of_lt_of_le (hwf b) fx.nx, .inl b⟩
    · refine ⟨by rcases hlim with q | q <;> omega, ?_, .inr a⟩
      cases q : En'.get id with
      | none => exact absurd q b
      | some y => exact fx.wf id y q

theorem hide_all {id : Nat} (hi : id < 8192) : ∀ {l : List Nat} {m : PT}, (∀ k, k ∈ l → k < 8192) → PT.get dep (hide m l) id = if id ∈ l then none else PT.get dep m id := by
  intro l
  induction l with
  | nil => intro m _; simp [hide]
  | cons k r ih =>
    intro m hk
    simp only [hide]
    rw [ih fun a b => hk a (List.mem_cons_of_mem _ b)]
    by_cases hr : id ∈ r
    · rw [if_pos hr, if_pos (List.mem_cons_of_mem _ hr)]
    · rw [if_neg hr]
      by_cases e : k = id
      · subst e; rw [PT.get_set_same, if_pos (List.mem_cons_self ..)]
      · rw [PT.get_set_other dep m k id _ (hk k (List.mem_cons_self ..)) hi e, if_neg (by simp only [List.mem_cons, not_or]; exact ⟨fun q => e q.symm, hr⟩)]

/- What is seen when all that is unordered is hidden. -/
theorem DI.hid (h : DI P F0 S0 D E E' v ch) {pi : Nat} {hid : List Nat} (hh : hidden pi D.chs = some hid) :
    (∀ k, k ∈ hid → k < 8192) ∧ (∀ id, id ∉ hid → ∀ j, j < D.i → tb pi j = false → ch j id = none) ∧ ∀ nx lim id, (⟨nx, lim, hide D.S.m hid⟩ : Sto).get id = if id ∈ hid then none else D.S.get id := by
  obtain ⟨q1, q2⟩ := hidden_get hh
  have hsm : ∀ k, k ∈ hid → k < 8192 := fun k hk => let ⟨j, c, a, b⟩ := q2 k hk; h.small j c a k b
  refine ⟨hsm, fun id hn j hj ht => ?_, fun nx lim id => ?_⟩
  · cases e : ch j id with
    | none => rfl
    | some r =>
      obtain ⟨c, a, b⟩ := h.chs j hj id (by rw [e]; simp)
      exact absurd (q1 j c a ht id b) hn
  · by_cases hi : id < 8192
    · rw [Sto.get_small hi]
      show PT.get dep (hide D.S.m hid) id = _
      rw [hide_all hi hsm, Sto.get_small hi]
    · rw [Sto.get_big hi]
      split
      · rfl
      · exact (Sto.get_big hi).symm

theorem DI.wide (h : DI P F0 S0 D E E' v ch) (hS : ∀ id o, S0.get id = some o → id < S0.nx) (ho : D.os = o :: os) {hid : List Nat} {S' : Sto} {vn : AV} (hh : hidden (edgeMask D.pms o.after.toList) D.chs = some hid) (ha : allIn (edgeMask D.pms o.after.toList) D.es = true)
    (hop : OpC P D.ops o D.F.get ⟨D.S.nx, D.S.lim, hide D.S.m hid⟩ vn S') (fx : Facts ⟨D.S.nx, D.S.lim, hide D.S.m hid⟩ S') :
    ∃ E E' v ch, DI P F0 S0 (D.wideN o os ⟨D.S.nx, D.S.lim, hide D.S.m hid⟩ (edgeMask D.pms o.after.toList) hid vn S') E E' v ch := by
  obtain ⟨hsm, hcl, hgt⟩ := h.hid hh
  generalize hEn : (⟨D.S.nx, D.S.lim, hide D.S.m hid⟩ : Sto) = En at *
  have hEnx : En.nx = D.S.nx := by rw [← hEn]
  have hEl : En.lim = D.S.lim := by rw [← hEn]
  have hEg : ∀ id, En.get id = if id ∈ hid then none else D.S.get id := fun id => by rw [← hEn]; exact hgt _ _ id
  have hsome : ∀ {id ob}, En.get id = some ob → id ∉ hid ∧ D.S.get id = some ob := by
    intro id ob e
    rw [hEg] at e
    split at e
    · simp at e
    · exact ⟨by assumption, e⟩
  obtain ⟨chn, hchn⟩ : ∃ f : Nat → Option (Option AObj), f = fun id => if id ∉ hid ∧ D.S.lim ≤ id ∧ id < S'.nx ∧ (En.get id ≠ none ∨ En.nx ≤ id) then some (S'.get id) else none := ⟨_, rfl⟩
  have h1 : ∀ id, chn id ≠ none → id ∉ hid ∧ D.S.lim ≤ id ∧ id < S'.nx ∧ (En.get id ≠ none ∨ En.nx ≤ id) := by
    intro id e
    rw [hchn] at e
    by_cases q : id ∉ hid ∧ D.S.lim ≤ id ∧ id < S'.nx ∧ (En.get id ≠ none ∨ En.nx ≤ id)
    · exact q
    · exact absurd (if_neg q) e
  have h2 : ∀ id, (id ∉ hid ∧ D.S.lim ≤ id ∧ id < S'.nx ∧ (En.get id ≠ none ∨ En.nx ≤ id)) → chn id = some (S'.get id) := by intro id q; rw [hchn]; exact if_pos q
  have h3 : ∀ id, ¬ (id ∉ hid ∧ D.S.lim ≤ id ∧ id < S'.nx ∧ (En.get id ≠ none ∨ En.nx ≤ id)) → chn id = none := by intro id q; rw [hchn]; exact if_neg q
  refine ⟨_, _, _, _, h.step ho (chn := chn) (vn := vn) rfl hop hEnx fx.nx (by omega) ?_ ?_ ?_ ?_ ?_ ?_ rfl rfl rfl rfl rfl rfl rfl ?_ ?_ ?_ ?_ ?_ ?_⟩
  · intro id ob e
    obtain ⟨a, b⟩ := hsome e
    exact ⟨b, hcl id a⟩
  · intro j hj ht id _ _
    cases e : (E j).get id with
    | none => rfl
    | some r =>
      have := allIn_get ha j _ (h.es j hj id (by rw [e]; simp))
      rw [ht] at this; simp at this
  · intro id ob e
    rw [h2 id (h1 id (by rw [e]; simp))] at e
    simpa using e
  · intro id ob e hl
    obtain ⟨a, b⟩ := hsome e
    rw [h2 id ⟨a, by omega, Nat.lt_of_lt_of_le (by rw [hEnx]; exact h.wf hS b) fx.nx, .inl (by rw [e]; simp)⟩]
    simp
  · intro id e
    obtain ⟨_, a, b, _⟩ := h1 id e
    exact ⟨by omega, b⟩
  · intro id e
    exact (h1 id e).2.2.2
  · intro id
    show (⟨S'.nx, D.S.lim, rehide D.S S'.m hid⟩ : Sto).get id = _
    by_cases hi : id < 8192
    · rw [Sto.get_small hi]
      show PT.get dep (rehide D.S S'.m hid) id = _
      rw [rehide_get hi hsm]
      by_cases q : id ∈ hid
      · rw [if_pos q, h3 id (fun c => c.1 q)]
      · rw [if_neg q, ← Sto.get_small hi (s := S')]
        have hE : En.get id = D.S.get id := by rw [hEg, if_neg q]
        by_cases c : id ∉ hid ∧ D.S.lim ≤ id ∧ id < S'.nx ∧ (En.get id ≠ none ∨ En.nx ≤ id)
        · rw [h2 id c]
        · rw [h3 id c]
          by_cases l1 : id < D.S.lim
          · simp only [fx.prot id (by omega), hE]
          · by_cases l2 : id < S'.nx
            · have l3 : En.get id = none ∧ id < En.nx := by
                refine ⟨?_, ?_⟩
                · cases e : En.get id with
                  | none => rfl
                  | some _ => exact absurd ⟨q, by omega, l2, .inl (by rw [e]; simp)⟩ c
                · refine Nat.lt_of_not_le fun e => c ⟨q, by omega, l2, .inr e⟩
              rw [fx.dead id l3.2 l3.1, ← hE, l3.1]
            · have e1 : S'.get id = none := by
                cases e : S'.get id with
                | none => rfl
                | some o => exact absurd (fx.wf id o e) l2
              have e2 : D.S.get id = none := by
                cases e : D.S.get id with
                | none => rfl
                | some o => exact absurd (Nat.lt_of_lt_of_le (h.wf hS e) (by have := fx.nx; omega)) l2
              rw [e1, e2]
    · rw [Sto.get_big hi]
      cases q : chn id with
      | none => exact (Sto.get_big hi).symm
      | some r =>
        have := h2 id (h1 id (by rw [q]; simp))
        rw [q] at this
        simp only [Option.some.injEq] at this
        subst this
        exact (Sto.get_big hi).symm
  · intro id e
    obtain ⟨_, a, b, _⟩ := h1 id e
    refine ⟨.wide D.S.lim S'.nx, List.mem_cons_self .., ?_⟩
    simp only [ChS.has]
    rw [Nat.ble_eq_true_of_le a]
    exact Nat.ble_eq_true_of_le b
  · intro p hp; exact List.mem_cons_of_mem _ hp
  · intro j c hm id hc
    rcases List.mem_cons.1 hm with e | e
    · simp at e
    · exact h.small j c e id hc
  · intro id e; exact List.mem_cons_self ..
  · intro p hp; exact List.mem_cons_of_mem _ hp
end

end
end Go.Eng

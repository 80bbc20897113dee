/- Functions that are stood in: by what a closed run came to, by a run whose result is never written again, by a run of all branches; no conditions. -/
import Derived.Test.YtdabbamabgfeoaaGreatEngW
namespace Go.Eng
noncomputable section

def eqB : Bool → Bool → Bool
  | true, true => true
  | false, false => true
  | _, _ => false
def eqV : Value → Value → Bool
  | .bool a, .bool b => eqB a b
  | .int j a, .int k b => match decide (j = k) with
    | true => decide (a = b)
    | false => false
  | .string a, .string b => decide (a = b)
  | .pointer none, .pointer none => true
  | .map none, .map none => true
  | .nilFunc, .nilFunc => true
  | .nilIface, .nilIface => true
  | _, _ => false
theorem eqB_eq {a b : Bool} (h : eqB a b = true) : a = b := by cases a <;> cases b <;> first | rfl | simp [eqB] at h
theorem eqV_eq {a b : Value} (h : eqV a b = true) : a = b := by
  unfold eqV at h
  split at h <;> try (simp at h; done)
  · rw [eqB_eq h]
  · split at h
    · rename_i h1
      rw [of_decide_eq_true h1, of_decide_eq_true h]
    · simp at h
  · rw [of_decide_eq_true h]
  all_goals rfl

mutual
def eqAV : AV → AV → Bool
  | .sc a, .sc b => eqV a b
  | .agg a, .agg b => eqL a b
  | .nils, .nils => true
  | .nilS, .nilS => true
  | .lit a, .lit b => eqL a b
  | .lptr a, .lptr b => eqL a b
  | .tup a, .tup b => eqL a b
  | .ifc t a, .ifc u b => match Nat.beq t u with
    | true => eqAV a b
    | false => false
  | .ptr a b c, .ptr x y z => match Nat.beq a x, Nat.beq b y with
    | true, true => Nat.beq c z
    | _, _ => false
  | .sref a b c, .sref x y z => match Nat.beq a x, Nat.beq b y with
    | true, true => Nat.beq c z
    | _, _ => false
  | .mapr a, .mapr b => Nat.beq a b
  | .clip a, .clip b => eqAV a b
  | _, _ => false
def eqL : List AV → List AV → Bool
  | [], [] => true
  | a :: r, b :: s => match eqAV a b with
    | true => eqL r s
    | false => false
  | _, _ => false
end

theorem nbeq {a b : Nat} (h : Nat.beq a b = true) : a = b := Nat.eq_of_beq_eq_true h
mutual
theorem eqAV_eq : ∀ (a b : AV), eqAV a b = true → a = b
  | .sc a, b, h => by cases b <;> simp only [eqAV, Bool.false_eq_true] at h; rw [eqV_eq h]
  | .agg a, b, h => by cases b <;> simp only [eqAV, Bool.false_eq_true] at h; rw [eqL_eq a _ h]
  | .nils, b, h => by cases b <;> simp only [eqAV, Bool.false_eq_true] at h; rfl
  | .nilS, b, h => by cases b <;> simp only [eqAV, Bool.false_eq_true] at h; rfl
  | .lit a, b, h => by cases b <;> simp only [eqAV, Bool.false_eq_true] at h; rw [eqL_eq a _ h]
  | .lptr a, b, h => by cases b <;> simp only [eqAV, Bool.false_eq_true] at h; rw [eqL_eq a _ h]
  | .tup a, b, h => by cases b <;> simp only [eqAV, Bool.false_eq_true] at h; rw [eqL_eq a _ h]
  | .ifc t a, b, h => by
    cases b <;> simp only [eqAV, Bool.false_eq_true] at h
    split at h
    · rename_i h1; rw [nbeq h1, eqAV_eq a _ h]
    · simp at h
  | .ptr a b c, d, h => by
    cases d <;> simp only [eqAV, Bool.false_eq_true] at h
    split at h
    · rename_i h1 h2; rw [nbeq h1, nbeq h2, nbeq h]
    · simp at h
  | .sref a b c, d, h => by
    cases d <;> simp only [eqAV, Bool.false_eq_true] at h
    split at h
    · rename_i h1 h2; rw [nbeq h1, nbeq h2, nbeq h]
    · simp at h
  | .mapr a, b, h => by cases b <;> simp only [eqAV, Bool.false_eq_true] at h; rw [nbeq h]
  | .clip a, b, h => by cases b <;> simp only [eqAV, Bool.false_eq_true] at h; rw [eqAV_eq a _ h]
  | .fn _ _ _, b, h => by simp [eqAV] at h
  | .yld _, b, h => by simp [eqAV] at h
  | .top, b, h => by simp [eqAV] at h
theorem eqL_eq : ∀ (a b : List AV), eqL a b = true → a = b
  | [], b, h => by cases b <;> simp only [eqL, Bool.false_eq_true] at h; rfl
  | a :: r, b, h => by
    cases b <;> simp only [eqL, Bool.false_eq_true] at h
    split at h
    · rename_i h1; rw [eqAV_eq a _ h1, eqL_eq r _ h]
    · simp at h
end

/- A closed run: the result, without objects. -/
def frzAll (k : Nat) : List (AV × Sto) → Option AV
  | [] => none
  | [(v, S)] => frz S k v
  | (v, S) :: r => match frz S k v, frzAll k r with
    | some a, some b => match eqAV a b with
      | true => some a
      | false => none
    | _, _ => none
def closed (T : FT) (P : Program) (n d k f : Nat) (args : List AV) : Option AV :=
  match St.outs T P d n [St.start T f args Sto.empty] with
  | some l => frzAll k l
  | none => none

theorem frzAll_get {k : Nat} : ∀ {l : List (AV × Sto)} {v' : AV}, frzAll k l = some v' → ∀ v S, (v, S) ∈ l → frz S k v = some v' := by
  intro l
  induction l with
  | nil => intro v' h; simp [frzAll] at h
  | cons p r ih =>
    obtain ⟨u, U⟩ := p
    intro v' h v S hm
    cases r with
    | nil =>
      simp only [List.mem_singleton, Prod.mk.injEq] at hm
      obtain ⟨rfl, rfl⟩ := hm
      exact h
    | cons q r =>
      simp only [frzAll] at h
      split at h <;> try (simp at h; done)
      rename_i a b ha hb
      split at h <;> simp only [Option.some.injEq, reduceCtorEq] at h
      rename_i he
      have he := eqAV_eq _ _ he
      subst h
      rcases List.mem_cons.1 hm with e | hm
      · simp only [Prod.mk.injEq] at e
        obtain ⟨rfl, rfl⟩ := e
        exact ha
      · exact ih (by rw [he]; exact hb) v S hm

section
variable {T : FT} {P : Program}

theorem closed_sound (hT : TabOk T P) (hmix : P.follows .mixedOrders = true) {n d k f : Nat} {args : List AV} {v : AV} (h : closed T P n d k f args = some v) : FnC P f args Sto.empty fun r _ => r = .ret v := by
  unfold closed at h
  split at h <;> try (simp at h; done)
  rename_i l hl
  exact (outs_sound hT hmix hl).freeze fun r S' ⟨u, a, b⟩ => ⟨u, a, frzAll_get h u S' b⟩
theorem closed_frame (hT : TabOk T P) (hmix : P.follows .mixedOrders = true) {n d k f : Nat} {args : List AV} {v : AV} (h : closed T P n d k f args = some v) (ha : pureL args = true) (hv : pureV v = true) (S : Sto) :
    FnC P f args S fun r S' => r = .ret v ∧ S' = S := (closed_sound hT hmix h).frame ha hv S

/- A function that is stood in by closed runs. -/
def extTab : List (List AV × AV) → List AV → Sto → Option (AV × Sto)
  | [], _, _ => none
  | (a, v) :: r, args, S => match eqL args a with
    | true => some (v, S)
    | false => extTab r args S
def TabFn (P : Program) (f : Nat) (l : List (List AV × AV)) : Prop := ∀ a v, (a, v) ∈ l → ∀ S, FnC P f a S fun r S' => r = .ret v ∧ S' = S
theorem extTab_sound {f : Nat} : ∀ {l : List (List AV × AV)}, TabFn P f l → ∀ args S v S', extTab l args S = some (v, S') → FnC P f args S fun r S'' => r = .ret v ∧ S'' = S' := by
  intro l
  induction l with
  | nil => intro _ args S v S' h; simp [extTab] at h
  | cons p r ih =>
    obtain ⟨a, u⟩ := p
    intro hl args S v S' h
    simp only [extTab] at h
    split at h
    · rename_i he
      simp only [Option.some.injEq, Prod.mk.injEq] at h
      obtain ⟨rfl, rfl⟩ := h
      rw [eqL_eq _ _ he]
      exact hl a u (List.mem_cons_self ..) S
    · exact ih (fun a v hm => hl a v (List.mem_cons_of_mem _ hm)) args S v S' h

theorem TabFn.nil {f : Nat} : TabFn P f [] := fun a v h => by simp at h
theorem TabFn.cons {f : Nat} {a : List AV} {v : AV} {l : List (List AV × AV)} (h : ∀ S, FnC P f a S fun r S' => r = .ret v ∧ S' = S) (t : TabFn P f l) : TabFn P f ((a, v) :: l) := by
  intro b u hm
  rcases List.mem_cons.1 hm with e | hm
  · simp only [Prod.mk.injEq] at e
    obtain ⟨rfl, rfl⟩ := e
    exact h
  · exact t b u hm

/- A run whose result is never written again. -/
def allGe (n : Nat) : Chg → Bool
  | [] => true
  | (id, _) :: r => match Nat.ble n id with
    | true => allGe n r
    | false => false
def idsOf : Chg → List Nat
  | [] => []
  | (id, _) :: r => id :: idsOf r
def frzOut (k : Nat) (v : AV) (S : Sto) (c : Chg) : Option (AV × Sto) :=
  match allGe S.lim c with
  | true => match frz ⟨S.nx, S.lim, putC .nil c⟩ k v with
    | some v' => some (v', ⟨S.nx, S.lim, hide S.m (idsOf c)⟩)
    | none => none
  | false => none
def extFrz (T : FT) (P : Program) (d k f : Nat) (args : List AV) (S : Sto) : Option (AV × Sto) :=
  match St.rep T P d (St.start T f args S) with
  | .done (.ret v) S1 => frzOut k v S1 (gather S1 0 gfuel [v] [])
  | _ => none

theorem allGe_get {n : Nat} : ∀ {c : Chg}, allGe n c = true → ∀ id ob, (id, ob) ∈ c → n ≤ id := by
  intro c
  induction c with
  | nil => intro _ id ob h; simp at h
  | cons p r ih =>
    obtain ⟨k, x⟩ := p
    intro h id ob hm
    simp only [allGe] at h
    split at h
    · rename_i hb
      rcases List.mem_cons.1 hm with e | hm
      · simp only [Prod.mk.injEq] at e; obtain ⟨rfl, rfl⟩ := e; exact Nat.le_of_ble_eq_true hb
      · exact ih h id ob hm
    · simp at h
theorem idsOf_iff {id : Nat} : ∀ {c : Chg}, id ∈ idsOf c ↔ lkC c id = true := by
  intro c
  induction c with
  | nil => simp [idsOf, lkC]
  | cons p r ih =>
    obtain ⟨k, x⟩ := p
    simp only [idsOf, lkC, List.mem_cons]
    cases hb : Nat.beq k id with
    | true => simp [nbeq hb]
    | false =>
      have : id ≠ k := by rintro rfl; rw [Nat.beq_refl] at hb; simp at hb
      simp [this, ih]

theorem Ext.freezeOut {v v' : AV} {S S1 S2 : Sto} {k : Nat} {c : Chg} (hcg : ∀ id ob, (id, ob) ∈ c → S1.get id ≠ none ∧ ob = S1.get id) (hf : frzOut k v S1 c = some (v', S2)) {g g' : Gh} {w w' : World} (hi' : Inv S1 g' w') (hxt : Ext S g w S1 g' w') :
    ∃ g2, (∀ x, VR g' v x → VR g2 v' x) ∧ Inv S2 g2 w' ∧ Ext S g w S2 g2 w' := by
  have hsm : ∀ id ob, (id, ob) ∈ c → id < 8192 := by
    intro id ob e
    obtain ⟨a, _⟩ := hcg id ob e
    cases q : S1.get id with
    | none => exact absurd q a
    | some y => exact Sto.lt_of_get q
  unfold frzOut at hf
  split at hf <;> try (simp at hf; done)
  rename_i hge
  split at hf <;> simp only [Option.some.injEq, Prod.mk.injEq, reduceCtorEq] at hf
  rename_i v0 hfz
  obtain ⟨rfl, rfl⟩ := hf
  obtain ⟨Sr, hSr⟩ : ∃ x : Sto, x = ⟨S1.nx, S1.lim, putC .nil c⟩ := ⟨_, rfl⟩
  obtain ⟨S2, hS2⟩ : ∃ x : Sto, x = ⟨S1.nx, S1.lim, hide S1.m (idsOf c)⟩ := ⟨_, rfl⟩
  rw [← hSr] at hfz
  rw [← hS2]
  have hr : ∀ id o, Sr.get id = some o → lkC c id = true ∧ S1.get id = some o := by
    intro id o e
    have hi := Sto.lt_of_get e
    rw [Sto.get_small hi, hSr] at e
    have e : PT.get dep (putC .nil c) id = some o := e
    cases hl : lkC c id with
    | false => rw [putC_out hi hsm hl, PT.get_nil] at e; simp at e
    | true =>
      obtain ⟨ob, q1, q2⟩ := putC_in (m := .nil) hi hsm hl
      rw [q2] at e
      obtain ⟨_, b⟩ := hcg id ob q1
      exact ⟨rfl, by rw [← b]; exact e⟩
  have h2 : ∀ id o, S2.get id = some o → lkC c id = false ∧ S1.get id = some o := by
    intro id o e
    have hi := Sto.lt_of_get e
    rw [Sto.get_small hi, hS2] at e
    have e : PT.get dep (hide S1.m (idsOf c)) id = some o := e
    obtain ⟨a, b⟩ := hide_get hi (fun k hk => by obtain ⟨ob, q⟩ := lkC_mem (idsOf_iff.1 hk); exact hsm k ob q) e
    refine ⟨?_, by rw [Sto.get_small hi]; exact b⟩
    cases q : lkC c id with
    | false => rfl
    | true => exact absurd (idsOf_iff.2 q) a
  have h2n : ∀ id, lkC c id = false → S2.get id = S1.get id := by
    intro id e
    by_cases hi : id < 8192
    · rw [Sto.get_small hi, Sto.get_small hi, hS2]
      show PT.get dep (hide S1.m (idsOf c)) id = _
      rw [hide_all hi (fun k hk => by obtain ⟨ob, q⟩ := lkC_mem (idsOf_iff.1 hk); exact hsm k ob q), if_neg]
      intro q; rw [idsOf_iff.1 q] at e; simp at e
    · rw [Sto.get_big hi, Sto.get_big hi]
  have hir : Inv Sr g' w' := hi'.less (by rw [hSr]) fun id o e => (hr id o e).2
  have hfr := Gh.freeze_frozen hir
  have hcase : ∀ b c0, (g'.freeze Sr w').ro b = some c0 → g'.ro b = some c0 ∨ (∃ t fz, w'.heap[b]? = some (.cells c0 t fz)) ∧ ∃ id o l, Sr.get id = some o ∧ g'.ph id = some l ∧ l.blk = b := by
    intro b c0 e
    simp only [Gh.freeze] at e
    split at e
    · rename_i c' hc; simp only [Option.some.injEq] at e; subst e; exact .inl hc
    · split at e
      · rename_i c' t fz hh
        split at e <;> simp only [Option.some.injEq, reduceCtorEq] at e
        rename_i hex
        subst e; exact .inr ⟨⟨t, fz, hh⟩, hex⟩
      · simp at e
  have hlim : S1.lim = S.lim := hxt.lim
  refine ⟨g'.freeze Sr w', fun x hres => frz_sound hir hfr k v v0 x hfz hres, ⟨?_, ?_, ?_, ?_⟩, ⟨hxt.size, hxt.os, hxt.tape, hxt.output, hxt.keep, ?_, Gh.le_trans hxt.gle hfr.1, by rw [hS2]; exact hxt.nx, by rw [hS2]; exact hxt.lim, ?_, hxt.old, ?_, ?_, hxt.fz⟩⟩
  · intro b c0 e
    rcases hcase b c0 e with q | ⟨q, _⟩
    · exact hi'.ro b c0 q
    · exact q
  · intro id o e
    obtain ⟨a, b⟩ := h2 id o e
    obtain ⟨l, p1, p2, p3⟩ := hi'.ob id o b
    refine ⟨l, p1, ?_, p3.mono hfr.1⟩
    cases q : (g'.freeze Sr w').ro l.blk with
    | none => rfl
    | some c0 =>
      rcases hcase _ c0 q with q | ⟨_, id0, o0, l0, q1, q2, q3⟩
      · rw [p2] at q; simp at q
      · obtain ⟨a0, b0⟩ := hr id0 o0 q1
        have := hi'.inj id id0 o o0 l l0 b b0 p1 q2 q3.symm
        subst this
        rw [a] at a0; simp at a0
  · intro id id' o o' l l' e e' p p' hb
    exact hi'.inj id id' o o' l l' (h2 id o e).2 (h2 id' o' e').2 p p' hb
  · intro id hid; rw [hS2] at hid; exact hi'.fresh id hid
  · intro id o l e e1 e2 e3
    exact hxt.own id o l (h2 id o e).2 e1 e2 e3
  · intro id hid
    rw [h2n id ?_]
    · exact hxt.prot id hid
    · cases q : lkC c id with
      | false => rfl
      | true =>
        obtain ⟨ob, q⟩ := lkC_mem q
        have := allGe_get hge id ob q
        omega
  · intro b c0 e hb
    rcases hcase b c0 e with q | ⟨_, id, o, l, q1, q2, q3⟩
    · exact hxt.ron b c0 q hb
    · obtain ⟨a, b0⟩ := hr id o q1
      obtain ⟨ob, q⟩ := lkC_mem a
      have := allGe_get hge id ob q
      obtain ⟨id0, o0, l0, r1, r2, r3, r4⟩ := hxt.own id o l b0 (by omega) q2 (by rw [q3]; exact hb)
      exact .inr ⟨id0, o0, l0, r1, r2, r3, by rw [r4, q3]⟩
  · intro id hid e
    have := hxt.dead id hid e
    cases q : S2.get id with
    | none => rfl
    | some o => rw [(h2 id o q).2] at this; simp at this
theorem gather_hcg {S1 : Sto} {l : List AV} {c : Chg} (hc : gather S1 0 gfuel l [] = c) : ∀ id ob, (id, ob) ∈ c → S1.get id ≠ none ∧ ob = S1.get id := by
  intro id ob e
  rw [← hc] at e
  rcases gather_get e with q | ⟨_, q1, q2⟩
  · simp at q
  · exact ⟨q1, q2⟩
theorem FnC.freezeOut {f : FuncId} {args : List AV} {v v' : AV} {S S1 S2 : Sto} {k : Nat} (h : FnC P f args S fun r S' => r = .ret v ∧ S' = S1) (hf : frzOut k v S1 (gather S1 0 gfuel [v] []) = some (v', S2)) :
    FnC P f args S fun r S' => r = .ret v' ∧ S' = S2 := by
  intro g w xs hx hi
  refine (h g w xs hx hi).mono fun e w' ⟨r, S', g', ⟨hq, hq'⟩, hres, hi', hxt⟩ => ?_
  subst hq; subst hq'
  obtain ⟨g2, e1, e2, e3⟩ := Ext.freezeOut (gather_hcg rfl) hf hi' hxt
  refine ⟨.ret v', S2, g2, ⟨rfl, rfl⟩, ?_, e2, e3⟩
  cases e with
  | returned x => exact e1 x hres
  | panicked c => exact hres.elim
  | outgrown => exact hres.elim

/- Arguments that are never written again. -/
theorem FnC.freezeIn {f : FuncId} {args args' : List AV} {S S2 : Sto} {k : Nat} {Q : Res → Sto → Prop} (hf : frzOut k (.tup args) S (gather S 0 gfuel args []) = some (.tup args', S2)) (h : FnC P f args' S2 Q) : FnC P f args S Q := by
  intro g w xs hx hi
  obtain ⟨g2, e1, e2, e3⟩ := Ext.freezeOut (gather_hcg rfl) hf hi (Ext.refl _ _ _)
  have hv := e1 (.tuple xs) (.tup hx.1 hx.2)
  cases hv with | tup h1 h2 => ?_
  refine (h g2 w xs ⟨h1, h2⟩ e2).mono fun e w' ⟨r, S', g', hq, hres, hi', hxt⟩ => ?_
  exact ⟨r, S', g', hq, hres, hi', e3.trans hxt⟩
def extIn (k : Nat) (x : List AV → Sto → Option (AV × Sto)) (args : List AV) (S : Sto) : Option (AV × Sto) :=
  match frzOut k (.tup args) S (gather S 0 gfuel args []) with
  | some (.tup a, S2) => x a S2
  | _ => none
theorem extIn_sound {f k : Nat} {x : List AV → Sto → Option (AV × Sto)} (hx : ∀ args S v S', x args S = some (v, S') → FnC P f args S fun r S'' => r = .ret v ∧ S'' = S') (args : List AV) (S : Sto) (v : AV) (S' : Sto) (h : extIn k x args S = some (v, S')) :
    FnC P f args S fun r S'' => r = .ret v ∧ S'' = S' := by
  unfold extIn at h
  split at h <;> try (simp at h; done)
  rename_i a S2 hf
  exact FnC.freezeIn hf (hx _ _ _ _ h)

/- A function that reads: its arguments are not written meanwhile, and its result shares nothing with them. -/
mutual
def flatV : AV → Bool
  | .sc _ => true
  | .nilS => true
  | .agg l => flatL l
  | .tup l => flatL l
  | .ifc _ v => flatV v
  | _ => false
def flatL : List AV → Bool
  | [] => true
  | v :: r => match flatV v with
    | true => flatL r
    | false => false
end
theorem flatL_get {l : List AV} (h : flatL l = true) : ∀ {k : Nat} {a : AV}, l[k]? = some a → flatV a = true := by
  induction l with
  | nil => intro k a e; simp at e
  | cons v r ih =>
    intro k a e
    simp only [flatL] at h
    split at h <;> try (simp at h; done)
    rename_i hv
    cases k with
    | zero => simp at e; subst e; exact hv
    | succ k => exact ih h (by simpa using e)
theorem VR.flat {g g2 : Gh} {v : AV} {x : Value} (h : VR g v x) (hp : flatV v = true) : VR g2 v x := by
  induction h with
  | sc h => exact .sc h
  | agg hl _ ih => exact .agg hl fun k a x e e' => ih k a x e e' (flatL_get (by simpa [flatV] using hp) e)
  | tup hl _ ih => exact .tup hl fun k a x e e' => ih k a x e e' (flatL_get (by simpa [flatV] using hp) e)
  | ifc _ ih => exact .ifc (ih (by simpa [flatV] using hp))
  | nilS => exact .nilS
  | _ => simp [flatV] at hp
theorem FnC.read {f : FuncId} {args args' : List AV} {v : AV} {S : Sto} {k : Nat} (hf : frz S k (.tup args) = some (.tup args')) (ha : pureL args' = true) (hv : flatV v = true) (h : FnC P f args' Sto.empty fun r _ => r = .ret v) :
    FnC P f args S fun r S' => r = .ret v ∧ S' = S := by
  intro g w xs hx hi
  have hfr := Gh.freeze_frozen hi
  obtain ⟨g2, hg2⟩ : ∃ k : Gh, k = g.freeze S w := ⟨_, rfl⟩
  rw [← hg2] at hfr
  have hvt := frz_sound hi hfr k _ _ (.tuple xs) hf (.tup hx.1 hx.2)
  cases hvt with | tup h1 h2 => ?_
  have hcase : ∀ b c, g2.ro b = some c → ∃ t fz, w.heap[b]? = some (.cells c t fz) := by
    intro b c e
    subst hg2
    simp only [Gh.freeze] at e
    split at e
    · rename_i c' hc; simp only [Option.some.injEq] at e; subst e; exact hi.ro _ _ hc
    · split at e
      · rename_i c' t fz hh
        split at e <;> simp only [Option.some.injEq, reduceCtorEq] at e
        subst e; exact ⟨t, fz, hh⟩
      · simp at e
  have hi0 : Inv Sto.empty g2.bare w := ⟨hcase, fun id o e => by rw [Sto.get_empty] at e; simp at e, fun id id' o o' l l' e => by rw [Sto.get_empty] at e; simp at e, fun _ _ => rfl⟩
  have hx0 : VRs g2.bare args' xs := ⟨h1, fun k a x e e' => (h2 k a x e e').bare (pureL_get ha e)⟩
  refine (h g2.bare w xs hx0 hi0).mono fun e w' ⟨r, S', g', hr, hres, hi', hxt⟩ => ?_
  subst hr
  obtain ⟨gn, hgn⟩ : ∃ k : Gh, k = { ro := fun b => if b < w.heap.size then g.ro b else g'.ro b, ph := g.ph } := ⟨_, rfl⟩
  have hlo : ∀ b, b < w.heap.size → gn.ro b = g.ro b := fun b hb => by subst hgn; simp [hb]
  have hhi : ∀ b, ¬ b < w.heap.size → gn.ro b = g'.ro b := fun b hb => by subst hgn; simp [hb]
  have hkeep : ∀ b, b < w.heap.size → w'.heap[b]? = w.heap[b]? := fun b hb => hxt.keep b hb fun id o l e => by rw [Sto.get_empty] at e; simp at e
  have hros : ∀ b c, g.ro b = some c → b < w.heap.size := by
    intro b c e
    obtain ⟨t, fz, q⟩ := hi.ro b c e
    exact (Array.getElem?_eq_some_iff.1 q).1
  have hle : Gh.le g gn := ⟨fun b c e => by rw [hlo b (hros b c e)]; exact e, fun _ _ e => by subst hgn; exact e⟩
  have hph : gn.ph = g.ph := by subst hgn; rfl
  refine ⟨.ret v, S, gn, ⟨rfl, rfl⟩, ?_, ⟨?_, ?_, ?_, ?_⟩, ⟨hxt.size, hxt.os, hxt.tape, hxt.output, fun b hb _ => hkeep b hb, ?_, hle, Nat.le_refl _, rfl, fun _ _ => rfl, ?_, ?_, ?_, hxt.fz⟩⟩
  · cases e with
    | returned x => exact VR.flat hres hv
    | panicked c => exact hres.elim
    | outgrown => exact hres.elim
  · intro b c e
    by_cases hb : b < w.heap.size
    · rw [hlo b hb] at e
      rw [hkeep b hb]; exact hi.ro b c e
    · rw [hhi b hb] at e; exact hi'.ro b c e
  · intro id o e
    obtain ⟨l, a, b, c⟩ := hi.ob id o e
    refine ⟨l, hle.ph _ _ a, ?_, ?_⟩
    · rw [hlo _ c.lt]; exact b
    · rw [hkeep _ c.lt]; exact c.mono hle
  · intro id id' o o' l l' e e' p p' hb
    rw [hph] at p p'
    exact hi.inj id id' o o' l l' e e' p p' hb
  · intro id hid; rw [hph]; exact hi.fresh id hid
  · intro id o l e e1 e2 e3
    rw [hph] at e2
    exact ⟨id, o, l, e, e1, e2, rfl⟩
  · intro id _; rw [hph]
  · intro b c e hb; rw [hlo b hb] at e; exact .inl e
  · exact fun _ _ e => e
def extRead (k : Nat) (x : List AV → Sto → Option (AV × Sto)) (args : List AV) (S : Sto) : Option (AV × Sto) :=
  match frz S k (.tup args) with
  | some (.tup a) => match pureL a with
    | true => match x a Sto.empty with
      | some (v, _) => match flatV v with
        | true => some (v, S)
        | false => none
      | none => none
    | false => none
  | _ => none
theorem extRead_sound {f k : Nat} {x : List AV → Sto → Option (AV × Sto)} (hx : ∀ args S v S', x args S = some (v, S') → FnC P f args S fun r S'' => r = .ret v ∧ S'' = S') (args : List AV) (S : Sto) (v : AV) (S' : Sto) (h : extRead k x args S = some (v, S')) :
    FnC P f args S fun r S'' => r = .ret v ∧ S'' = S' := by
  unfold extRead at h
  split at h <;> try (simp at h; done)
  rename_i a hf
  split at h <;> try (simp at h; done)
  rename_i hp
  split at h <;> try (simp at h; done)
  rename_i u S1 hu
  split at h <;> simp only [Option.some.injEq, Prod.mk.injEq, reduceCtorEq] at h
  rename_i hfl
  obtain ⟨rfl, rfl⟩ := h
  exact FnC.read hf hp hfl ((hx _ _ _ _ hu).mono fun r S'' q => q.1)
theorem extFrz_sound (hT : TabOk T P) (hmix : P.follows .mixedOrders = true) {d k f : Nat} (args : List AV) (S : Sto) (v : AV) (S' : Sto) (h : extFrz T P d k f args S = some (v, S')) : FnC P f args S fun r S'' => r = .ret v ∧ S'' = S' := by
  unfold extFrz at h
  split at h
  · rename_i u S1 hr
    exact FnC.freezeOut ((St.sound hT hmix hr).mono fun r S' q => q) h
  · simp at h

/- A run of all branches that writes nothing that was there. -/
def eqKV : List (AV × AV) → List (AV × AV) → Bool
  | [], [] => true
  | (a, b) :: r, (c, d) :: s => match eqAV a c, eqAV b d with
    | true, true => eqKV r s
    | _, _ => false
  | _, _ => false
def eqOb : Option AObj → Option AObj → Bool
  | some (.arr n a), some (.arr m b) => match Nat.beq n m with
    | true => eqL a b
    | false => false
  | some (.mp a), some (.mp b) => eqKV a b
  | _, _ => false
def eqChg : Chg → Chg → Bool
  | [], [] => true
  | (i, a) :: r, (j, b) :: s => match Nat.beq i j, eqOb a b with
    | true, true => eqChg r s
    | _, _ => false
  | _, _ => false
theorem eqKV_eq : ∀ {a b : List (AV × AV)}, eqKV a b = true → a = b := by
  intro a
  induction a with
  | nil => intro b h; cases b <;> simp [eqKV] at h; rfl
  | cons p r ih =>
    obtain ⟨x, y⟩ := p
    intro b h
    cases b with
    | nil => simp [eqKV] at h
    | cons q s =>
      obtain ⟨x', y'⟩ := q
      simp only [eqKV] at h
      split at h
      · rename_i h1 h2; rw [eqAV_eq _ _ h1, eqAV_eq _ _ h2, ih h]
      · simp at h
theorem eqOb_eq {a b : Option AObj} (h : eqOb a b = true) : a = b := by
  unfold eqOb at h
  split at h
  · split at h
    · rename_i h1; rw [nbeq h1, eqL_eq _ _ h]
    · simp at h
  · rw [eqKV_eq h]
  · simp at h
theorem eqChg_eq : ∀ {a b : Chg}, eqChg a b = true → a = b := by
  intro a
  induction a with
  | nil => intro b h; cases b <;> simp [eqChg] at h; rfl
  | cons p r ih =>
    obtain ⟨x, y⟩ := p
    intro b h
    cases b with
    | nil => simp [eqChg] at h
    | cons q s =>
      obtain ⟨x', y'⟩ := q
      simp only [eqChg] at h
      split at h
      · rename_i h1 h2; rw [nbeq h1, eqOb_eq h2, ih h]
      · simp at h

def joinL (n : Nat) : List (AV × Sto) → Option (AV × Nat × Chg)
  | [] => none
  | [(v, S)] => some (v, S.nx, gather S n gfuel [v] [])
  | (v, S) :: r => match joinL n r with
    | some (u, m, c) => match eqAV v u, Nat.beq S.nx m, eqChg (gather S n gfuel [v] []) c with
      | true, true, true => some (u, m, c)
      | _, _, _ => none
    | none => none
def extFork (T : FT) (P : Program) (n d f : Nat) (args : List AV) (S : Sto) : Option (AV × Sto) :=
  match Nat.ble S.lim S.nx with
  | true => match St.outs T P d n [St.start T f args ⟨S.nx, S.nx, S.m⟩] with
    | some l => match joinL S.nx l with
      | some (v, m, c) => some (v, ⟨m, S.lim, putC S.m c⟩)
      | none => none
    | none => none
  | false => none
theorem joinL_get {n : Nat} : ∀ {l : List (AV × Sto)} {v : AV} {m : Nat} {c : Chg}, joinL n l = some (v, m, c) → ∀ u S, (u, S) ∈ l → u = v ∧ S.nx = m ∧ gather S n gfuel [u] [] = c := by
  intro l
  induction l with
  | nil => intro v m c h; simp [joinL] at h
  | cons p r ih =>
    obtain ⟨x, X⟩ := p
    intro v m c h u S hm
    cases r with
    | nil =>
      simp only [joinL, Option.some.injEq, Prod.mk.injEq] at h
      simp only [List.mem_singleton, Prod.mk.injEq] at hm
      obtain ⟨rfl, rfl⟩ := hm
      exact h
    | cons q r =>
      simp only [joinL] at h
      split at h <;> try (simp at h; done)
      rename_i v' m' c' hj
      split at h <;> simp only [Option.some.injEq, Prod.mk.injEq, reduceCtorEq] at h
      rename_i h1 h2 h3
      obtain ⟨rfl, rfl, rfl⟩ := h
      rcases List.mem_cons.1 hm with e | hm
      · simp only [Prod.mk.injEq] at e
        obtain ⟨rfl, rfl⟩ := e
        exact ⟨eqAV_eq _ _ h1, nbeq h2, eqChg_eq h3⟩
      · exact ih hj u S hm

theorem FnC.quiet {f : FuncId} {args : List AV} {v : AV} {n lim m : Nat} {t : PT} {c : Chg} {Q : Res → Sto → Prop} (hl : lim ≤ n) (h : FnC P f args ⟨n, n, t⟩ Q) (hQ : ∀ r S', Q r S' → r = .ret v ∧ S'.nx = m ∧ gather S' n gfuel [v] [] = c) :
    FnC P f args ⟨n, lim, t⟩ fun r S' => r = .ret v ∧ S' = ⟨m, lim, putC t c⟩ := by
  intro g w xs hx hi
  have hiE : Inv ⟨n, n, t⟩ g w := Inv.less (A := ⟨n, n, t⟩) (B := ⟨n, lim, t⟩) rfl (fun id o e => e) hi
  refine (h g w xs hx hiE).mono fun e w' ⟨r, S1, g', hq, hres, hi', hxt⟩ => ?_
  obtain ⟨q1, q2, q3⟩ := hQ r S1 hq
  subst q1
  have hcg : ∀ id ob, (id, ob) ∈ c → n ≤ id ∧ S1.get id ≠ none ∧ ob = S1.get id := by
    intro id ob e
    rw [← q3] at e
    rcases gather_get e with q | q
    · simp at q
    · exact q
  have hsm : ∀ id ob, (id, ob) ∈ c → id < 8192 := by
    intro id ob e
    obtain ⟨_, a, _⟩ := hcg id ob e
    cases q : S1.get id with
    | none => exact absurd q a
    | some y => exact Sto.lt_of_get q
  have hno : ∀ id o, (⟨n, n, t⟩ : Sto).get id = some o → n ≤ id → False := fun id o e hn => by have := hiE.get_lt e; exact absurd this (Nat.not_lt.2 hn)
  have hkeep : ∀ b, b < w.heap.size → w'.heap[b]? = w.heap[b]? := fun b hb => hxt.keep b hb fun id o l e e1 => (hno id o e e1).elim
  obtain ⟨S2, hS2⟩ : ∃ x : Sto, x = ⟨m, lim, putC t c⟩ := ⟨_, rfl⟩
  have hlow : ∀ id, id < n → S2.get id = (⟨n, lim, t⟩ : Sto).get id := by
    intro id hid
    by_cases hb : id < 8192
    · rw [Sto.get_small hb, Sto.get_small hb, hS2]
      refine putC_out hb hsm ?_
      cases q : lkC c id with
      | false => rfl
      | true => obtain ⟨ob, q⟩ := lkC_mem q; have := (hcg id ob q).1; omega
    · rw [Sto.get_big hb, Sto.get_big hb]
  have hsame : ∀ id, (⟨n, lim, t⟩ : Sto).get id = (⟨n, n, t⟩ : Sto).get id := fun id => rfl
  have hsub : ∀ id o, S2.get id = some o → S1.get id = some o := by
    intro id o e
    by_cases hid : id < n
    · rw [hlow id hid, hsame] at e
      rw [hxt.prot id hid]; exact e
    · have hb := Sto.lt_of_get e
      rw [Sto.get_small hb, hS2] at e
      have e : PT.get dep (putC t c) id = some o := e
      cases q : lkC c id with
      | true =>
        obtain ⟨ob, r1, r2⟩ := putC_in (m := t) hb hsm q
        rw [r2] at e
        rw [← (hcg id ob r1).2.2]; exact e
      | false =>
        rw [putC_out hb hsm q] at e
        have : (⟨n, n, t⟩ : Sto).get id = some o := by rw [Sto.get_small hb]; exact e
        exact (hno id o this (by omega)).elim
  rw [← hS2]
  refine ⟨.ret v, S2, g', ⟨rfl, rfl⟩, hres, hi'.less (by rw [hS2]; exact q2.symm) hsub, ⟨hxt.size, hxt.os, hxt.tape, hxt.output, fun b hb _ => hkeep b hb, ?_, hxt.gle, by rw [hS2, ← q2]; exact hxt.nx, by rw [hS2], ?_, hxt.old, ?_, ?_, hxt.fz⟩⟩
  · intro id o l e e1 e2 e3
    by_cases hid : id < n
    · rw [hlow id hid] at e
      exact ⟨id, o, l, e, e1, by rw [← hxt.old id hid]; exact e2, rfl⟩
    · obtain ⟨id0, o0, l0, r1, r2, _⟩ := hxt.own id o l (hsub id o e) (by show n ≤ id; omega) e2 e3
      exact (hno id0 o0 r1 r2).elim
  · intro id hid
    have hid : id < lim := hid
    exact hlow id (by omega)
  · intro b c0 e hb
    rcases hxt.ron b c0 e hb with q | ⟨id0, o0, l0, r1, r2, _⟩
    · exact .inl q
    · exact (hno id0 o0 r1 r2).elim
  · intro id hid e
    rw [hlow id hid]; exact e
theorem extFork_sound (hT : TabOk T P) (hmix : P.follows .mixedOrders = true) {n d f : Nat} (args : List AV) (S : Sto) (v : AV) (S' : Sto) (h : extFork T P n d f args S = some (v, S')) : FnC P f args S fun r S'' => r = .ret v ∧ S'' = S' := by
  unfold extFork at h
  split at h <;> try (simp at h; done)
  rename_i hl
  split at h <;> try (simp at h; done)
  rename_i l hout
  split at h <;> simp only [Option.some.injEq, Prod.mk.injEq, reduceCtorEq] at h
  rename_i u m c hj
  obtain ⟨rfl, rfl⟩ := h
  exact FnC.quiet (Nat.le_of_ble_eq_true hl) (outs_sound hT hmix hout) fun r S1 ⟨x, a, b⟩ => by
    obtain ⟨q1, q2, q3⟩ := joinL_get hj x S1 b
    subst q1
    exact ⟨a, q2, q3⟩
end

/- One stand-in, or else another one. -/
def extOr (x y : List AV → Sto → Option (AV × Sto)) (args : List AV) (S : Sto) : Option (AV × Sto) :=
  match x args S with
  | some r => some r
  | none => y args S
theorem extOr_sound {P : Program} {f : Nat} {x y : List AV → Sto → Option (AV × Sto)} (hx : ∀ args S v S', x args S = some (v, S') → FnC P f args S fun r S'' => r = .ret v ∧ S'' = S')
    (hy : ∀ args S v S', y args S = some (v, S') → FnC P f args S fun r S'' => r = .ret v ∧ S'' = S') (args : List AV) (S : Sto) (v : AV) (S' : Sto) (h : extOr x y args S = some (v, S')) : FnC P f args S fun r S'' => r = .ret v ∧ S'' = S' := by
  unfold extOr at h
  split at h
  · rename_i r e
    simp only [Option.some.injEq] at h; subst h
    exact hx _ _ _ _ e
  · exact hy _ _ _ _ h

/- Tables. -/
def Ent.good (P : Program) (f : Nat) (e : Ent) : Prop := P.funcs[f]? = some e.fn ∧ e.fn.body = some e.body ∧ bodyOk P f = true ∧ e.ext = none
def okT (P : Program) : Nat → Nat → Nat → FT → Prop
  | _, _, _, .nil => True
  | 0, b, _, .node o _ _ => match o with
    | some e => Ent.good P b e
    | none => True
  | d + 1, b, s, .node _ l r => okT P d b (2 * s) l ∧ okT P d (b + s) (2 * s) r
theorem okT_get {P : Program} : ∀ {d b s : Nat} {T : FT} {i : Nat} {e : Ent}, okT P d b s T → i < 2 ^ d → FT.get d T i = some e → Ent.good P (b + s * i) e := by
  intro d
  induction d with
  | zero =>
    intro b s T i e h hi hg
    cases T with
    | nil => simp [FT.get] at hg
    | node o l r =>
      simp only [FT.get] at hg
      subst hg
      have : i = 0 := by simpa using hi
      subst this
      simpa [okT] using h
  | succ d ih =>
    intro b s T i e h hi hg
    cases T with
    | nil => simp [FT.get] at hg
    | node o l r =>
      obtain ⟨h1, h2⟩ := h
      have h2p : 2 ^ (d + 1) = 2 * 2 ^ d := by rw [Nat.pow_succ]; omega
      simp only [FT.get] at hg
      split at hg
      · rename_i hb
        have hb := nbeq hb
        have := ih h1 (by omega) hg
        rw [show b + 2 * s * (i / 2) = b + s * i from by rw [Nat.mul_comm 2 s, Nat.mul_assoc, show 2 * (i / 2) = i from by omega]] at this
        exact this
      · rename_i hb
        have hb : i % 2 = 1 := by
          have := Nat.mod_two_eq_zero_or_one i
          rcases this with q | q
          · rw [q] at hb; simp at hb
          · exact q
        have := ih h2 (by omega) hg
        rw [show b + s + 2 * s * (i / 2) = b + s * i from by rw [Nat.mul_comm 2 s, Nat.mul_assoc, Nat.add_assoc, show s + s * (2 * (i / 2)) = s * i from by
          rw [show s + s * (2 * (i / 2)) = s * (2 * (i / 2) + 1) from by rw [Nat.mul_add, Nat.mul_one, Nat.add_comm], show 2 * (i / 2) + 1 = i from by omega]]] at this
        exact this
theorem TabOk.base {T : FT} {P : Program} (h : okT P 10 0 1 T) : TabOk T P := by
  intro f e he
  unfold FT.look at he
  split at he
  · rename_i hb
    have hb := Nat.le_of_ble_eq_true hb
    obtain ⟨a, b, c, d⟩ := okT_get h (show f < 2 ^ 10 from hb) he
    rw [show 0 + 1 * f = f from by omega] at a c
    exact ⟨a, b, c, fun x hx => by rw [d] at hx; simp at hx⟩
  · simp at he

theorem setx_get {x : List AV → Sto → Option (AV × Sto)} : ∀ {d : Nat} {T : FT} {i j : Nat} {e : Ent}, i < 2 ^ d → j < 2 ^ d → FT.get d (FT.setx d T i x) j = some e → FT.get d T j = some e ∨ (j = i ∧ ∃ e0, FT.get d T j = some e0 ∧ e = { e0 with ext := some x }) := by
  intro d
  induction d with
  | zero =>
    intro T i j e hi hj h
    cases T with
    | nil => simp [FT.setx, FT.get] at h
    | node o l r =>
      have hi : i = 0 := by simpa using hi
      have hj : j = 0 := by simpa using hj
      cases o with
      | none => simp [FT.setx, FT.get] at h
      | some e0 =>
        simp only [FT.setx, FT.get, Option.some.injEq] at h
        exact .inr ⟨by omega, e0, rfl, h.symm⟩
  | succ d ih =>
    intro T i j e hi hj h
    have h2p : 2 ^ (d + 1) = 2 * 2 ^ d := by rw [Nat.pow_succ]; omega
    have odd : ∀ {n : Nat}, Nat.beq (n % 2) 0 = false → n % 2 = 1 := by
      intro n hb
      rcases Nat.mod_two_eq_zero_or_one n with q | q
      · rw [q] at hb; simp at hb
      · exact q
    cases T with
    | nil => simp [FT.setx, FT.get] at h
    | node o l r =>
      simp only [FT.setx] at h
      cases hbi : Nat.beq (i % 2) 0 <;> rw [hbi] at h <;> cases hbj : Nat.beq (j % 2) 0 <;> simp only [FT.get, hbj] at h ⊢
      · rcases ih (by omega) (by omega) h with q | ⟨q, e0, q1, q2⟩
        · exact .inl q
        · have := odd hbi; have := odd hbj
          exact .inr ⟨by omega, e0, q1, q2⟩
      · exact .inl h
      · exact .inl h
      · rcases ih (by omega) (by omega) h with q | ⟨q, e0, q1, q2⟩
        · exact .inl q
        · have := nbeq hbi; have := nbeq hbj
          exact .inr ⟨by omega, e0, q1, q2⟩
def FT.withExt (T : FT) (f : Nat) (x : List AV → Sto → Option (AV × Sto)) : FT := FT.setx 10 T f x
theorem TabOk.ext {T : FT} {P : Program} (h : TabOk T P) {f : Nat} (hf : f < 1024) {x : List AV → Sto → Option (AV × Sto)} (hx : ∀ args S v S', x args S = some (v, S') → FnC P f args S fun r S'' => r = .ret v ∧ S'' = S') : TabOk (T.withExt f x) P := by
  intro g e he
  unfold FT.look at he
  split at he
  · rename_i hb
    have hlt := Nat.le_of_ble_eq_true hb
    rcases setx_get (show f < 2 ^ 10 from hf) (show g < 2 ^ 10 from hlt) he with q | ⟨rfl, e0, q1, q2⟩
    · exact h g e (by unfold FT.look; rw [hb]; exact q)
    · obtain ⟨a, b, c, _⟩ := h g e0 (by unfold FT.look; rw [hb]; exact q1)
      subst q2
      refine ⟨a, b, c, fun y hy => ?_⟩
      simp only [Option.some.injEq] at hy
      subst hy; exact hx
  · simp at he

end
end Go.Eng

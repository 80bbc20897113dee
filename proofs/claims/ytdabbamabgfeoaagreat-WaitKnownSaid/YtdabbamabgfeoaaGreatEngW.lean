/- The machine on abstract values is sound; no conditions. -/
import Derived.Test.YtdabbamabgfeoaaGreatEngV
namespace Go.Eng
noncomputable section

/- The table tells of functions of the program; functions that are stood in are proved. -/
def TabOk (T : FT) (P : Program) : Prop := ∀ f e, FT.look T f = some e → P.funcs[f]? = some e.fn ∧ e.fn.body = some e.body ∧ bodyOk P f = true ∧
  ∀ x, e.ext = some x → ∀ args S v S', x args S = some (v, S') → FnC P f args S fun r S'' => r = .ret v ∧ S'' = S'

/- What the activity on top is to lead to. -/
def GK (P : Program) (k : Kont) (fn : Func) (Q : Res → AMode → Sto → Prop) : AFrame → Sto → Prop :=
  match rndOf k with
  | some id => fun F' S' => RFin id F' S' fun r S'' => Q r .run S''
  | none => Fin P fn Q

def DGoal (P : Program) (D : DSt) (k : Kont) (Q : Res → AMode → Sto → Prop) : Prop :=
  ∀ F0 S0, (∃ E E' v ch, DI P F0 S0 D E E' v ch) → Reach P F0 S0 (GK P k D.fn Q)

def SemK (P : Program) (Qf : Res → Sto → Prop) : Kont → ((Res → AMode → Sto → Prop) → Prop) → Prop
  | .nil, A => A fun r _ S => Qf r S
  | .call fn F o all rest td next, A => SemK P Qf next fun Q => A fun r _ S => Reach P (F.back o all rest td r) S (GK P next fn Q)
  | .dfr fn F ds next, A => SemK P Qf next fun Q => A fun r cm S => Reach P { F with defers := ds, mode := amodeAfter r cm } S (GK P next fn Q)
  | .loop fn F d l td next, A => SemK P Qf next fun Q => A fun r _ S => Reach P (F.backF d l td r) S (GK P next fn Q)
  | .round fn F o all rest td _ next, A => SemK P Qf next fun Q => A fun r _ S => Reach P (F.back o all rest td r) S (GK P next fn Q)
  | .drw D o os E pi hid _ next, A => ∃ v E', A (fun r _ S => r = .ret v ∧ S = E') ∧ SemK P Qf next fun Q => DGoal P (D.over o os E pi hid v E') next Q

def SemS (P : Program) (Qf : Res → Sto → Prop) : St → Prop
  | .run fn F S k => SemK P Qf k fun Q => Reach P F S (GK P k fn Q)
  | .drw D k => SemK P Qf k fun Q => DGoal P D k Q
  | .done r S => Qf r S
  | .fork fn k l => ∀ F S, (F, S) ∈ l → SemK P Qf k fun Q => Reach P F S (GK P k fn Q)
  | .bad _ => False

section
variable {T : FT} {P : Program} {Qf : Res → Sto → Prop}

theorem SemK.mono : ∀ {k : Kont} {A A' : (Res → AMode → Sto → Prop) → Prop}, (∀ Q, A Q → A' Q) → SemK P Qf k A → SemK P Qf k A' := by
  intro k
  induction k with
  | nil => intro A A' h q; exact h _ q
  | call fn F o all rest td next ih => intro A A' h q; exact ih (fun Q => h _) q
  | dfr fn F ds next ih => intro A A' h q; exact ih (fun Q => h _) q
  | loop fn F d l td next ih => intro A A' h q; exact ih (fun Q => h _) q
  | round fn F o all rest td id next ih => intro A A' h q; exact ih (fun Q => h _) q
  | drw D o os E pi hid rnd next ih => intro A A' h q; obtain ⟨v, E', a, b⟩ := q; exact ⟨v, E', h _ a, b⟩

theorem SemS.reach {fn : Func} {F F' : AFrame} {S S' : Sto} {k : Kont} (h : ∀ G, Reach P F' S' G → Reach P F S G) (q : SemS P Qf (.run fn F' S' k)) : SemS P Qf (.run fn F S k) := SemK.mono (fun _ => h _) q

theorem GK.mono {k : Kont} {fn : Func} {Q Q' : Res → AMode → Sto → Prop} (hq : ∀ r cm S, Q r cm S → Q' r cm S) {F : AFrame} {S : Sto} (q : GK P k fn Q F S) : GK P k fn Q' F S := by
  unfold GK at *
  cases hr : rndOf k with
  | none =>
    rw [hr] at q
    obtain ⟨a, b⟩ := q
    refine ⟨a, ?_⟩
    rcases b with ⟨b, v, c, d⟩ | ⟨l, b, c⟩
    · exact .inl ⟨b, v, c, hq _ _ _ d⟩
    · exact .inr ⟨l, b, hq _ _ _ c⟩
  | some id =>
    rw [hr] at q
    obtain ⟨a, b⟩ := q
    refine ⟨a, ?_⟩
    rcases b with ⟨b, st, pend, f, n, mask, env, params, assign, body, c, d, e⟩ | ⟨l, b, c⟩
    · refine .inl ⟨b, st, pend, f, n, mask, env, params, assign, body, c, d, ?_⟩
      rcases e with ⟨e, e'⟩ | ⟨c', e, e'⟩
      · exact .inl ⟨e, hq _ _ _ e'⟩
      · exact .inr ⟨c', e, hq _ _ _ e'⟩
    · exact .inr ⟨l, b, hq _ _ _ c⟩
theorem Reach.cons {fn : Func} {k : Kont} {F : AFrame} {S : Sto} {Q Q' : Res → AMode → Sto → Prop} (hq : ∀ r cm S, Q r cm S → Q' r cm S) (h : Reach P F S (GK P k fn Q)) : Reach P F S (GK P k fn Q') :=
  h.mono fun _ _ q => q.mono hq

theorem SemK.ends {Qf' : Res → Sto → Prop} (hq : ∀ r S, Qf r S → Qf' r S) : ∀ {k : Kont} {A : (Res → AMode → Sto → Prop) → Prop}, (∀ Q Q', (∀ r cm S, Q r cm S → Q' r cm S) → A Q → A Q') → SemK P Qf k A → SemK P Qf' k A := by
  intro k
  induction k with
  | nil => intro A hA h; exact hA _ _ (fun r _ S q => hq r S q) h
  | call fn F o all rest td next ih => intro A hA h; exact ih (fun Q Q' hQ => hA _ _ fun r cm S q => q.cons hQ) h
  | dfr fn F ds next ih => intro A hA h; exact ih (fun Q Q' hQ => hA _ _ fun r cm S q => q.cons hQ) h
  | loop fn F d l td next ih => intro A hA h; exact ih (fun Q Q' hQ => hA _ _ fun r cm S q => q.cons hQ) h
  | round fn F o all rest td id next ih => intro A hA h; exact ih (fun Q Q' hQ => hA _ _ fun r cm S q => q.cons hQ) h
  | drw D o os E pi hid rnd next ih =>
    intro A hA h
    obtain ⟨v, E', a, b⟩ := h
    exact ⟨v, E', a, ih (fun Q Q' hQ q F0 S0 hd => (q F0 S0 hd).cons hQ) b⟩
theorem SemK.all {ι : Type} : ∀ {k : Kont} {A : ι → (Res → AMode → Sto → Prop) → Prop}, flat k = true → (∀ i, SemK P Qf k (A i)) → SemK P Qf k fun Q => ∀ i, A i Q := by
  intro k
  induction k with
  | nil => intro A _ h; exact h
  | call fn F o all rest td next ih => intro A hf h; exact ih (A := fun i Q => A i _) hf h
  | dfr fn F ds next ih => intro A hf h; exact ih (A := fun i Q => A i _) hf h
  | loop fn F d l td next ih => intro A hf h; exact ih (A := fun i Q => A i _) hf h
  | round fn F o all rest td id next ih => intro A hf h; exact ih (A := fun i Q => A i _) hf h
  | drw D o os E pi hid rnd next ih => intro A hf h; simp [flat] at hf

theorem back_sem {r : Res} {cm : AMode} {S : Sto} {k : Kont} (h : SemS P Qf (back r cm S k)) : SemK P Qf k fun Q => Q r cm S := by
  cases k with
  | nil => exact h
  | call fn F o all rest td next =>
    simp only [back, fback_eq] at h
    exact h
  | dfr fn F ds next => exact h
  | loop fn F d l td next => exact h
  | round fn F o all rest td id next =>
    cases r with
    | ret v => exact h.elim
    | pan l => simp only [back, fback_eq] at h; exact h
  | drw D o os E pi hid rnd next =>
    cases rnd with
    | some id => exact h.elim
    | none =>
      cases r with
      | pan l => exact h.elim
      | ret v => exact ⟨v, S, ⟨rfl, rfl⟩, h⟩
theorem back_cm {r : Res} {cm : AMode} {S : Sto} {k : Kont} {id : Nat} (h : rndOf k = some id) : back r cm S k = back r .run S k := by
  cases k with
  | nil => simp [rndOf] at h
  | call fn F o all rest td next => simp [rndOf] at h
  | dfr fn F ds next => simp [rndOf] at h
  | loop fn F d l td next => simp [rndOf] at h
  | round fn F o all rest td id next => cases r <;> rfl
  | drw D o os E pi hid rnd next =>
    cases rnd with
    | none => simp [rndOf] at h
    | some id => rfl
theorem back_ret {v : AV} {cm : AMode} {S : Sto} {k : Kont} {id : Nat} (h : rndOf k = some id) (hs : SemS P Qf (back (.ret v) cm S k)) : False := by
  cases k with
  | nil => simp [rndOf] at h
  | call fn F o all rest td next => simp [rndOf] at h
  | dfr fn F ds next => simp [rndOf] at h
  | loop fn F d l td next => simp [rndOf] at h
  | round fn F o all rest td id next => exact hs
  | drw D o os E pi hid rnd next =>
    cases rnd with
    | none => simp [rndOf] at h
    | some id => exact hs

/- The end of a function, or of a round by a panic. -/
theorem efin_sem {fn : Func} {F : AFrame} {S : Sto} {k : Kont} {m : AMode} (hm : F.mode = m) (hd : F.defers = []) (h : SemS P Qf (efin P fn F S k m)) : SemS P Qf (.run fn F S k) := by
  cases m with
  | run => exact h.elim
  | returning =>
    simp only [efin, eret] at h
    cases hv : resAV P fn F S with
    | none => rw [hv] at h; exact h.elim
    | some v =>
      rw [hv] at h
      cases hr : rndOf k with
      | some id => exact (back_ret hr h).elim
      | none =>
        refine SemK.mono (fun Q q => Reach.done ?_) (back_sem h)
        simp only [GK, hr]
        exact ⟨hd, .inl ⟨hm, v, hv, q⟩⟩
  | panicking l =>
    simp only [efin] at h
    cases hr : rndOf k with
    | none =>
      refine SemK.mono (fun Q q => Reach.done ?_) (back_sem h)
      simp only [GK, hr]
      exact ⟨hd, .inr ⟨l, hm, q⟩⟩
    | some id =>
      rw [back_cm hr] at h
      refine SemK.mono (fun Q q => Reach.done ?_) (back_sem h)
      simp only [GK, hr]
      exact ⟨hd, .inr ⟨l, hm, q⟩⟩

theorem eunw_sem (hT : TabOk T P) {fn : Func} {F : AFrame} {S : Sto} {k : Kont} (hm : F.mode ≠ .run) {ds : List ADef} (hd : F.defers = ds) (h : SemS P Qf (eunw T P fn F S k ds)) : SemS P Qf (.run fn F S k) := by
  cases ds with
  | nil => exact efin_sem rfl hd h
  | cons d ds =>
    cases d with
    | call f cap args =>
      simp only [eunw, edfr] at h
      cases he : FT.look T f with
      | none => rw [he] at h; exact h.elim
      | some e =>
        rw [he] at h
        obtain ⟨t1, t2, _, _⟩ := hT f e he
        refine SemK.mono (fun Q q => ?_) h
        exact Reach.unwind (Q := fun r cm S' => Reach P { F with defers := ds, mode := amodeAfter r cm } S' (GK P k fn Q)) hm hd (DfC.of_body e.mask t1 t2 q) fun r cm S' q => q
    | coll id =>
      simp only [eunw, ecoll] at h
      split at h
      · rename_i hg hl
        exact SemS.reach (fun G q => Reach.coll hm hd hg (Nat.le_of_ble_eq_true hl) q) h
      · exact h.elim

theorem callOf_some {op : Op} {c : Call} (h : callOf op = some c) : op = .call c ∧ ∀ b, c.callee ≠ .builtin b := by
  cases op with
  | call c' =>
    simp only [callOf] at h
    split at h <;> simp only [Option.some.injEq, reduceCtorEq] at h
    rename_i hne
    subst h
    exact ⟨rfl, hne⟩
  | _ => simp [callOf] at h
theorem callOf_special {op : Op} {c : Call} (h : callOf op = some c) : specialOp op = false := by
  obtain ⟨rfl, hb⟩ := callOf_some h
  simp only [specialOp]
  split
  · rename_i e; exact absurd e (hb _)
  · rfl
theorem callE_some (hT : TabOk T P) {F : AFrame} {op : Op} {c : Call} {g : Nat} {e : Ent} {args : List AV} (hc : callOf op = some c) (h : callE T F c P = some (g, e, args)) :
    FT.look T g = some e ∧ ∀ S, aop P F.eval S op = some (.call g args) := by
  obtain ⟨rfl, hb⟩ := callOf_some hc
  unfold callE at h
  split at h <;> try (simp at h; done)
  rename_i as has
  split at h
  · rename_i f hf
    split at h <;> try (simp at h; done)
    rename_i g' first cap hfv
    split at h <;> simp only [Option.some.injEq, Prod.mk.injEq, reduceCtorEq] at h
    rename_i e' he
    obtain ⟨rfl, rfl, rfl⟩ := h
    exact ⟨he, fun S => by simp only [aop, callAV, has, hf, hfv, (hT _ _ he).2.2.1]⟩
  · rename_i r name hf
    split at h <;> try (simp at h; done)
    rename_i t v hrv
    split at h <;> try (simp at h; done)
    rename_i g' hm
    split at h <;> simp only [Option.some.injEq, Prod.mk.injEq, reduceCtorEq] at h
    rename_i e' he
    obtain ⟨rfl, rfl, rfl⟩ := h
    exact ⟨he, fun S => by simp only [aop, callAV, has, hf, hrv, hm, (hT _ _ he).2.2.1]⟩
  · simp at h

section
variable {fn : Func} {F : AFrame} {S : Sto} {k : Kont} {all : Array Oper} {i : Nat} {rest : List Nat} {td : List AItem} {o : Oper}

theorem Reach.op_fork {G : AFrame → Sto → Prop} (hm : F.mode = .run) (ht : F.todo = .ops all (i :: rest) :: td) (ho : all[i]? = some o) (hg : agd F all o = some true) (hsp : specialOp o.op = false) {l : List (AV × Sto)} (hc : forkC F S o.op = some l)
    (h : ∀ v S', (v, S') ∈ l → Reach P (F.after o v all rest td) S' G) : Reach P F S G := by
  unfold forkC at hc
  split at hc <;> try (simp at hc; done)
  rename_i it hop
  split at hc <;> try (simp at hc; done)
  rename_i a ha
  intro g w fr cs0 cs hf hcs hi
  obtain ⟨m, e1, e2⟩ := hf.split ht
  obtain ⟨r, S', z, w', q1, q2, q3, q4, q5⟩ := nextC_sound (P := P) (t := o.type) hi hc (OpR.of hf it a ha)
  have hex : (execOp fr.eval o).run P w = .ok (.value z) w' := by
    obtain ⟨dst, op, ty, pos, after, guard⟩ := o
    simp only at hop
    subst hop
    simp [execOp, q2]
  obtain ⟨x1, x2, x3, x4⟩ := F.after_keeps o r all rest td
  have hst := step_val (P := P) (cs := cs) (stepG_oper (hf.runs hm) e1 ho (agd_sound hf hg) (.inr hsp)) hex
  obtain ⟨F2, S2, g2, w2, fr2, cs2, q', r1, r2, r3, r4, r5, r6, r7, r8⟩ := h r S' q1 g w' (fr.finish z) cs0 cs ((hf.after e1 e2 ho q3)) (hcs.congr x1 x4) q4
  exact ⟨F2, S2, g2, w2, fr2, cs2, q', r1, r2, r3.trans x1, r4.trans x2, r5.trans x3, r6, q5.trans r7, Steps.head hst r8⟩

theorem forkF_mem {l : List (AV × Sto)} {v : AV} {S' : Sto} (h : (v, S') ∈ l) : (fafter F o v all rest td, S') ∈ forkF F o all rest td l := by
  induction l with
  | nil => simp at h
  | cons p r ih =>
    obtain ⟨a, b⟩ := p
    rcases List.mem_cons.1 h with e | h
    · simp only [Prod.mk.injEq] at e; obtain ⟨rfl, rfl⟩ := e; exact List.mem_cons_self ..
    · exact List.mem_cons_of_mem _ (ih h)

theorem efork_sem (hm : F.mode = .run) (ht : F.todo = .ops all (i :: rest) :: td) (ho : all[i]? = some o) (hg : agd F all o = some true) (hsp : specialOp o.op = false)
    (h : SemS P Qf (efork fn F k o all rest td (forkC F S o.op))) : SemS P Qf (.run fn F S k) := by
  cases hc : forkC F S o.op with
  | none => rw [hc] at h; exact h.elim
  | some l =>
    rw [hc] at h
    have many : SemS P Qf (efork2 fn F k o all rest td l (flat k)) → SemS P Qf (.run fn F S k) := by
      intro h
      cases hfl : flat k with
      | false => rw [hfl] at h; exact h.elim
      | true =>
        rw [hfl] at h
        have := SemK.all (ι := { p : AV × Sto // p ∈ l }) (A := fun p Q => Reach P (F.after o p.1.1 all rest td) p.1.2 (GK P k fn Q)) hfl fun p => by
          have := h _ _ (forkF_mem (F := F) (o := o) (all := all) (rest := rest) (td := td) p.2)
          rw [fafter_eq] at this
          exact this
        exact SemK.mono (fun Q q => Reach.op_fork hm ht ho hg hsp hc fun v S' hmem => q ⟨(v, S'), hmem⟩) this
    match l, many, h, hc with
    | [], many, h, _ => exact many h
    | [(v, S')], _, h, hc =>
      simp only [efork, fafter_eq] at h
      refine SemS.reach (fun G q => Reach.op_fork hm ht ho hg hsp hc fun v' S'' hmem => ?_) h
      simp only [List.mem_singleton, Prod.mk.injEq] at hmem
      obtain ⟨rfl, rfl⟩ := hmem
      exact q
    | _ :: _ :: _, many, h, _ => exact many h

theorem eres_sem (hT : TabOk T P) (hm : F.mode = .run) (ht : F.todo = .ops all (i :: rest) :: td) (ho : all[i]? = some o) (hg : agd F all o = some true) (hsp : specialOp o.op = false) {r : Option ARes} (ha : aop P F.eval S o.op = r)
    (h : SemS P Qf (eres T fn F S k o all rest td r)) : SemS P Qf (.run fn F S k) := by
  cases r with
  | none => exact efork_sem hm ht ho hg hsp h
  | some r =>
    cases r with
    | val v S' =>
      simp only [eres, fafter_eq] at h
      exact SemS.reach (fun G q => Reach.op_val hm ht ho hg hsp ha q) h
    | skip S' =>
      simp only [eres, fafter_eq] at h
      exact SemS.reach (fun G q => Reach.op_skip hm ht ho hg hsp ha q) h
    | pan v => exact SemS.reach (fun G q => Reach.op_pan hm ht ho hg hsp ha q) h
    | yld id args =>
      simp only [eres, eYld0] at h
      split at h
      · rename_i st pend f n mask env params assign body hlp
        simp only [eYld] at h
        split at h
        · rename_i e he hl
          obtain ⟨t1, _⟩ := hT f e he
          refine SemK.mono (fun Q q => ?_) h
          exact Reach.op_yld hm ht ho hg hsp ha hlp (Nat.eq_of_beq_eq_true hl) t1 q
        · exact h.elim
      · exact h.elim
    | call f args => exact h.elim
    | dfr f cap args => exact h.elim
    | rcv => exact h.elim

theorem espec_sem (hm : F.mode = .run) (ht : F.todo = .ops all (i :: rest) :: td) (ho : all[i]? = some o) (hg : agd F all o = some true) {r : Option ARes} (ha : aop P F.eval S o.op = r)
    (h : SemS P Qf (espec fn F S k o all rest td F.round r)) : SemS P Qf (.run fn F S k) := by
  cases hr : F.round with
  | some id => rw [hr] at h; cases r with
    | none => exact h.elim
    | some r => cases r <;> exact h.elim
  | none =>
    rw [hr] at h
    cases r with
    | none => exact h.elim
    | some r =>
      cases r with
      | dfr f cap args =>
        simp only [espec, fafter_eq] at h
        exact SemS.reach (fun G q => Reach.op_dfr hm ht ho hg hr ha q) h
      | rcv =>
        simp only [espec] at h
        split at h
        · rename_i hk
          cases hrec : arecover F.cm with
          | none =>
            rw [hrec] at h
            simp only [ercv, fafter_eq] at h
            exact SemS.reach (fun G q => Reach.op_rcv hm ht ho hg hk hr ha (by rw [hrec]; exact q)) h
          | some p =>
            obtain ⟨v, cm⟩ := p
            rw [hrec] at h
            simp only [ercv, fafter_eq] at h
            exact SemS.reach (fun G q => Reach.op_rcv hm ht ho hg hk hr ha (by rw [hrec]; exact q)) h
        · exact h.elim
      | _ => exact h.elim

theorem eop_sem (hT : TabOk T P) (hm : F.mode = .run) (ht : F.todo = .ops all (i :: rest) :: td) (ho : all[i]? = some o) (hg : agd F all o = some true) {b : Bool} (hsp : specialOp o.op = b)
    (h : SemS P Qf (eop T P fn F S k o all rest td b)) : SemS P Qf (.run fn F S k) := by
  cases b with
  | false => simp only [eop, faop_eq] at h; exact eres_sem hT hm ht ho hg hsp rfl h
  | true => simp only [eop, faop_eq] at h; exact espec_sem hm ht ho hg rfl h

theorem eops_sem (hT : TabOk T P) (hm : F.mode = .run) (ht : F.todo = .ops all (i :: rest) :: td) (h : SemS P Qf (eops T P fn F S k all rest td (opAt all i))) : SemS P Qf (.run fn F S k) := by
  rw [opAt_eq] at h
  cases ho : all[i]? with
  | none => rw [ho] at h; exact h.elim
  | some o =>
    rw [ho] at h
    simp only [eops] at h
    cases hg : agd F all o with
    | none => rw [hg] at h; exact h.elim
    | some b =>
      rw [hg] at h
      cases b with
      | false =>
        simp only [eguard, fafter_eq] at h
        exact SemS.reach (fun G q => Reach.unwanted hm ht ho hg q) h
      | true =>
        simp only [eguard] at h
        cases hc : callOf o.op with
        | none => rw [hc] at h; exact eop_sem hT hm ht ho hg rfl h
        | some c =>
          rw [hc] at h
          have hsp := callOf_special hc
          simp only [eany] at h
          cases he : callE T F c P with
          | none => rw [he] at h; exact eop_sem hT hm ht ho hg hsp h
          | some p =>
            obtain ⟨g, e, args⟩ := p
            rw [he] at h
            obtain ⟨q1, q2⟩ := callE_some hT hc he
            obtain ⟨t1, t2, t3, t4⟩ := hT g e q1
            simp only [ecall] at h
            cases hx : e.ext with
            | none =>
              rw [hx] at h
              refine SemK.mono (fun Q q => ?_) h
              exact Reach.op_call (Q := fun r S' => Reach P (F.back o all rest td r) S' (GK P k fn Q)) hm ht ho hg hsp (q2 S) (FnC.of_body e.mask t1 t2 q) fun r S' q => q
            | some x =>
              rw [hx] at h
              simp only [ecall2] at h
              cases hv : x args S with
              | none =>
                rw [hv] at h
                refine SemK.mono (fun Q q => ?_) h
                exact Reach.op_call (Q := fun r S' => Reach P (F.back o all rest td r) S' (GK P k fn Q)) hm ht ho hg hsp (q2 S) (FnC.of_body e.mask t1 t2 q) fun r S' q => q
              | some p =>
                obtain ⟨v, S'⟩ := p
                rw [hv] at h
                simp only [ext2, fafter_eq] at h
                refine SemS.reach (fun G q => Reach.op_call hm ht ho hg hsp (q2 S) (t4 x hx args S v S' hv) fun r S'' hr => ?_) h
                obtain ⟨rfl, rfl⟩ := hr
                exact q
end

theorem eBack_sem {S : Sto} {k : Kont} {v : AV} (h : SemS P Qf (eBack S k v)) : SemK P Qf k fun Q => Q (.ret v) .run S := by
  cases k with
  | round fn F o all rest td id next => simp only [eBack, fback_eq] at h; exact h
  | drw D o os E pi hid rnd next =>
    cases rnd with
    | none => exact h.elim
    | some id => exact ⟨v, S, ⟨rfl, rfl⟩, h⟩
  | _ => exact h.elim

theorem eRnd_sem {fn : Func} {F : AFrame} {S : Sto} {k : Kont} (hm : F.mode = .run) (h : SemS P Qf (eRnd0 F S k (rndOf k))) : SemS P Qf (.run fn F S k) := by
  cases hr : rndOf k with
  | none => rw [hr] at h; exact h.elim
  | some id =>
    rw [hr] at h
    simp only [eRnd0, eRnd] at h
    split at h
    · rename_i st pend f n mask env params assign body hd hg hl
      have hl := Nat.le_of_ble_eq_true hl
      have fin : ∀ (v : AV) (S1 : Sto), (∀ Q : Res → AMode → Sto → Prop, Q (.ret v) .run S1 → RFin id F S fun r S'' => Q r .run S'') → SemS P Qf (eBack S1 k v) → SemS P Qf (.run fn F S k) := by
        intro v S1 hq hs
        refine SemK.mono (fun Q q => Reach.done ?_) (eBack_sem hs)
        simp only [GK, hr]
        exact hq Q q
      cases htd : F.todo with
      | nil =>
        rw [htd] at h
        exact fin _ _ (fun Q q => ⟨hd, .inl ⟨hm, st, pend, f, n, mask, env, params, assign, body, hg, hl, .inl ⟨htd, q⟩⟩⟩) h
      | cons it r =>
        rw [htd] at h
        cases hout : outOf (it :: r) with
        | none => rw [hout] at h; exact h.elim
        | some c =>
          rw [hout] at h
          exact fin _ _ (fun Q q => ⟨hd, .inl ⟨hm, st, pend, f, n, mask, env, params, assign, body, hg, hl, .inr ⟨c, by rw [htd]; exact hout, q⟩⟩⟩) h
    · exact h.elim

theorem eRF_sem (hT : TabOk T P) {fn : Func} {F : AFrame} {S : Sto} {k : Kont} (hm : F.mode = .run) {f : Operand} {params : Array Tmp} {assign body : Code} {td : List AItem} (ht : F.todo = .code (.rangeFunc f params assign body) :: td)
    (h : SemS P Qf (eRF T fn F S k params assign body td F.round (F.eval f))) : SemS P Qf (.run fn F S k) := by
  cases hr : F.round with
  | some id => rw [hr] at h; exact h.elim
  | none =>
    rw [hr] at h
    cases hf : F.eval f with
    | none => rw [hf] at h; exact h.elim
    | some v =>
      rw [hf] at h
      cases v with
      | fn g first cap =>
        cases g with
        | func g =>
          simp only [eRF] at h
          split at h
          · rename_i e he h1 h2
            obtain ⟨t1, t2, t3, _⟩ := hT g e he
            have h1 := Nat.le_of_ble_eq_true h1
            refine SemK.mono (fun Q q => ?_) h
            exact Reach.rangeFunc (Q := fun r S' => Reach P (F.backF S.nx (S.nx + 1) td r) S' (GK P k fn Q)) hm ht hr hf t3 (by omega) (Nat.le_of_ble_eq_true h2) (FnC.of_body e.mask t1 t2 q) fun r S' q => q
          · exact h.elim
        | _ => exact h.elim
      | _ => exact h.elim

theorem Reach.inst {F : AFrame} {S : Sto} {G : AFrame → Sto → Prop} (h : ∀ g w fr, FrR P g F fr → Inv S g w → Reach P F S G) : Reach P F S G :=
  fun g w fr cs0 cs a b c => h g w fr a c g w fr cs0 cs a b c

theorem eDrw_sem {fn : Func} {F : AFrame} {S : Sto} {k : Kont} (hm : F.mode = .run) {id : Nat} {all : Array Oper} {td : List AItem} (ht : F.todo = .code (.region id all true) :: td)
    (h : SemS P Qf (eDrw T fn F S k id all td)) : SemS P Qf (.run fn F S k) := by
  simp only [eDrw] at h
  cases h1 : regOk all with
  | false => rw [h1] at h; exact h.elim
  | true =>
    cases h2 : Nat.ble S.lim S.nx with
    | false => rw [h1, h2] at h; exact h.elim
    | true =>
      rw [h1, h2] at h
      refine SemK.mono (fun Q q => ?_) h
      exact q F S ⟨_, _, _, _, DI.start h1 (Nat.le_of_ble_eq_true h2) hm ht rfl rfl rfl rfl rfl rfl⟩

theorem eloop_sem (hT : TabOk T P) {fn : Func} {F : AFrame} {S : Sto} {k : Kont} (hm : F.mode = .run) {l : List AItem} (hl : F.todo = l) (h : SemS P Qf (eloop T fn F S k l)) : SemS P Qf (.run fn F S k) := by
  unfold eloop at h
  split at h
  · exact eRF_sem hT hm hl h
  · exact eDrw_sem hm hl h
  · rename_i id td
    unfold eEnd at h
    split at h
    · rename_i st pend f n mask env params assign body hg
      split at h
      · rename_i h1 h2
        exact SemS.reach (fun G q => Reach.endRF hm hl hg h1 (Nat.le_of_ble_eq_true h2) q) h
      · exact h.elim
    · exact h.elim
  · rename_i td
    cases hr : F.round with
    | none => rw [hr] at h; exact h.elim
    | some id =>
      rw [hr] at h
      simp only [eBeg0, eBeg] at h
      split at h
      · rename_i pend f n mask env params assign body hg
        split at h
        · rename_i h2
          exact SemS.reach (fun G q => Reach.beg hm hl hr hg (Nat.le_of_ble_eq_true h2) q) h
        · exact h.elim
      · exact h.elim
  · exact eRnd_sem hm h

theorem est_sem (hT : TabOk T P) {fn : Func} {F : AFrame} {S : Sto} {k : Kont} (h : SemS P Qf (est T P fn F S k F.mode)) : SemS P Qf (.run fn F S k) := by
  cases hm : F.mode with
  | run =>
    rw [hm] at h
    simp only [est] at h
    have ctl : SemS P Qf (ectl T fn F S k (fctl F F.todo)) → SemS P Qf (.run fn F S k) := by
      intro h
      cases hc : fctl F F.todo with
      | some F' =>
        rw [hc] at h
        rw [fctl_eq hm] at hc
        exact SemS.reach (fun G q => Reach.ctl hc (fgoN_reach 10 q)) h
      | none => rw [hc] at h; exact eloop_sem hT hm rfl h
    cases htd : F.todo with
    | nil => rw [htd] at h; exact ctl (by rw [htd]; exact h)
    | cons it r =>
      rw [htd] at h
      cases it with
      | ops all l =>
        cases l with
        | nil => exact ctl (by rw [htd]; exact h)
        | cons i rest => exact eops_sem hT hm htd h
      | _ => exact ctl (by rw [htd]; exact h)
  | returning => rw [hm] at h; exact eunw_sem hT (by rw [hm]; simp) rfl h
  | panicking l => rw [hm] at h; exact eunw_sem hT (by rw [hm]; simp) rfl h

/- Drawn regions. -/
theorem DGoal.step {D D' : DSt} {k : Kont} {o : Oper} {os : List Oper} {Q : Res → AMode → Sto → Prop} (hg : DGoal P D' k Q) (ho : D.os = o :: os) (hfn : D'.fn = D.fn)
    (h : ∀ F0 S0 E E' v ch, DI P F0 S0 D E E' v ch → (∀ id o, S0.get id = some o → id < S0.nx) →
      (∀ En vn En', OpC P D.ops o D.F.get En vn En' → En.nx = D.S.nx → (∀ id ob, En.get id = some ob → D.S.get id = some ob) → Facts En En') → ∃ E E' v ch, DI P F0 S0 D' E E' v ch) : DGoal P D k Q := by
  intro F0 S0 ⟨E, E', v, ch, hd⟩
  refine Reach.inst fun g w fr hf hi => ?_
  rw [← hfn]
  exact hg F0 S0 (h F0 S0 E E' v ch hd (fun id o e => hi.get_lt e) fun En vn En' hop hn hgt => hd.facts hf hi ho hop hn hgt)

section
variable {D : DSt} {k : Kont} {o : Oper} {os : List Oper}

theorem dskip_sem (ho : D.os = o :: os) (hg : agd D.F D.ops o = some false) (h : SemS P Qf (.drw (D.next o os (edgeMask D.pms o.after.toList) (.tup []) D.S.nx [] none) k)) : SemS P Qf (.drw D k) := by
  refine SemK.mono (fun Q q => ?_) h
  refine DGoal.step q ho rfl (fun F0 S0 E E' v ch hd hS hF => ?_)
  have hem : ∀ id, (⟨D.S.nx, D.S.nx, .nil⟩ : Sto).get id = none := by
    intro id
    by_cases h : id < 8192
    · rw [Sto.get_small h]; exact PT.get_nil _ _
    · exact Sto.get_big h
  have hno : ∀ {id ob}, (⟨D.S.nx, D.S.nx, .nil⟩ : Sto).get id = some ob → False := by intro id ob e; rw [hem] at e; simp at e
  have hop : OpC P D.ops o D.F.get ⟨D.S.nx, D.S.nx, .nil⟩ (.tup []) ⟨D.S.nx, D.S.nx, .nil⟩ := OpC.unwanted hg
  exact hd.next ho (En := ⟨D.S.nx, D.S.nx, .nil⟩) (En' := ⟨D.S.nx, D.S.nx, .nil⟩) hop rfl (Nat.le_refl _) hd.lim_nx (fun id ob e => (hno e).elim) (fun id e => by simp [lkC] at e) (fun id ob e => by simp at e) (fun id ob e => (hno e).elim)
    (fun id e => by simp [lkC] at e) (.inr ⟨rfl, hem⟩)

theorem dres_sem (ho : D.os = o :: os) (hg : agd D.F D.ops o = some true) (hsp : specialOp o.op = false) {E : Sto} {ids : List Nat} {sees : Option Sto} {s : St}
    (h : dres D o os (edgeMask D.pms o.after.toList) k E ids sees (aop P D.F.eval E o.op) = some s) (hnx : E.nx = D.S.nx) (hlim : E.lim = D.S.lim ∨ E.lim = D.S.nx)
    (hget : ∀ id ob, E.get id = some ob → D.S.get id = some ob ∧ clearOf (edgeMask D.pms o.after.toList) D.chs id = true)
    (hids : ∀ id ob, E.get id = some ob → E.lim ≤ id → id < E.nx → id ∈ ids) (hidl : ∀ id, id ∈ ids → E.lim ≤ id)
    (hun : ∀ id, id ∈ ids → id < D.S.nx → unseen (edgeMask D.pms o.after.toList) D.es id = true) (hEo : sees = some E ∨ (sees = none ∧ ∀ id, E.get id = none))
    (hs : SemS P Qf s) : SemS P Qf (.drw D k) := by
  have go : ∀ (v : AV) (S1 : Sto), OpC P D.ops o D.F.get E v S1 → SemS P Qf (.drw (D.next o os (edgeMask D.pms o.after.toList) v S1.nx (oldIds E S1 ids ++ newIds S1 E.nx (S1.nx - E.nx)) sees) k) → SemS P Qf (.drw D k) := by
    intro v S1 hop hs
    refine SemK.mono (fun Q q => ?_) hs
    refine DGoal.step q ho rfl (fun F0 S0 E0 E0' v0 ch hd hS hF => ?_)
    have fx := hF E v S1 hop hnx fun id ob e => (hget id ob e).1
    exact hd.news hS ho hop fx hnx hlim (fun id ob e => ⟨(hget id ob e).1, hd.clear (hget id ob e).2⟩) hids (fun id a _ => hidl id a) (fun id a _ => hun id a) (fun id ob e => by
      obtain ⟨a, _, b, c⟩ := newIds_get e; exact ⟨a, b, c⟩) hEo
  cases hr : aop P D.F.eval E o.op with
  | none => rw [hr] at h; simp [dres] at h
  | some r =>
    rw [hr] at h
    cases r with
    | val v S1 =>
      simp only [dres, Option.some.injEq] at h
      subst h
      exact go v S1 (OpC.val hg hsp hr) hs
    | skip S1 =>
      simp only [dres, Option.some.injEq] at h
      subst h
      exact go _ S1 (OpC.skip hg hsp hr) hs
    | _ => simp [dres] at h

theorem aboveL_mem {lim id : Nat} : ∀ {l : List Nat}, id ∈ aboveL lim l ↔ id ∈ l ∧ lim ≤ id := by
  intro l
  induction l with
  | nil => simp [aboveL]
  | cons a r ih =>
    simp only [aboveL]
    split
    · rename_i h
      have h := Nat.le_of_ble_eq_true h
      rw [List.mem_cons, ih, List.mem_cons]
      constructor
      · rintro (rfl | ⟨x, y⟩)
        · exact ⟨.inl rfl, h⟩
        · exact ⟨.inr x, y⟩
      · rintro ⟨rfl | x, y⟩
        · exact .inl rfl
        · exact .inr ⟨x, y⟩
    · rename_i h
      have h : ¬ lim ≤ a := fun e => by rw [Nat.ble_eq_true_of_le e] at h; simp at h
      rw [ih, List.mem_cons]
      constructor
      · rintro ⟨x, y⟩; exact ⟨.inr x, y⟩
      · rintro ⟨rfl | x, y⟩
        · exact absurd y h
        · exact ⟨x, y⟩

theorem nil_get (nx lim id : Nat) : (⟨nx, lim, .nil⟩ : Sto).get id = none := by
  by_cases h : id < 8192
  · rw [Sto.get_small h]; exact PT.get_nil _ _
  · exact Sto.get_big h

theorem dop_sem (ho : D.os = o :: os) (h : SemS P Qf (dop P D o os (edgeMask D.pms o.after.toList) k (agd D.F D.ops o))) : SemS P Qf (.drw D k) := by
  cases hg : agd D.F D.ops o with
  | none => rw [hg] at h; exact h.elim
  | some b =>
    rw [hg] at h
    cases b with
    | false => exact dskip_sem ho hg h
    | true =>
      simp only [dop] at h
      cases hsp : specialOp o.op with
      | true => rw [hsp] at h; exact h.elim
      | false =>
        rw [hsp] at h
        simp only [dopW, faop_eq] at h
        cases h0 : dres D o os (edgeMask D.pms o.after.toList) k ⟨D.S.nx, D.S.nx, .nil⟩ [] none (aop P D.F.eval ⟨D.S.nx, D.S.nx, .nil⟩ o.op) with
        | some s =>
          rw [h0] at h
          exact dres_sem ho hg hsp h0 rfl (.inr rfl) (fun id ob e => by rw [nil_get] at e; simp at e) (fun id ob e => by rw [nil_get] at e; simp at e) (fun id e => by simp at e) (fun id e => by simp at e) (.inr ⟨rfl, fun id => nil_get _ _ id⟩) h
        | none =>
          rw [h0] at h
          simp only [dop0, dop1, dop2, faop_eq] at h
          have hseen : ∀ {nx lim id ob}, (⟨nx, lim, seen D.S (edgeMask D.pms o.after.toList) D.chs (opIds D.F (needs o.op)) .nil⟩ : Sto).get id = some ob → id ∈ opIds D.F (needs o.op) ∧ D.S.get id = some ob ∧ clearOf (edgeMask D.pms o.after.toList) D.chs id = true := by
            intro nx lim id ob e
            have hi := Sto.lt_of_get e
            rw [Sto.get_small hi] at e
            rcases seen_get hi e with q | q
            · rw [PT.get_nil] at q; simp at q
            · exact q
          generalize hm : seen D.S (edgeMask D.pms o.after.toList) D.chs (opIds D.F (needs o.op)) .nil = m at *
          cases h1 : dres D o os (edgeMask D.pms o.after.toList) k ⟨D.S.nx, D.S.nx, m⟩ [] (some ⟨D.S.nx, D.S.nx, m⟩) (aop P D.F.eval ⟨D.S.nx, D.S.nx, m⟩ o.op) with
          | some s =>
            rw [h1] at h
            refine dres_sem ho hg hsp h1 rfl (.inr rfl) (fun id ob e => (hseen e).2) (fun id ob e h1 h2 => ?_) (fun id e => by simp at e) (fun id e => by simp at e) (.inl rfl) h
            exact absurd h2 (Nat.not_lt.2 h1)
          | none =>
            rw [h1] at h
            simp only [dop2b] at h
            cases hu : allUnseen (edgeMask D.pms o.after.toList) D.es D.S.nx (aboveL D.S.lim (opIds D.F (needs o.op))) with
            | false => rw [hu] at h; exact h.elim
            | true =>
              rw [hu] at h
              simp only [dop3, faop_eq] at h
              cases h2 : dres D o os (edgeMask D.pms o.after.toList) k ⟨D.S.nx, D.S.lim, m⟩ (aboveL D.S.lim (opIds D.F (needs o.op))) (some ⟨D.S.nx, D.S.lim, m⟩) (aop P D.F.eval ⟨D.S.nx, D.S.lim, m⟩ o.op) with
              | none => rw [h2] at h; exact h.elim
              | some s =>
                rw [h2] at h
                exact dres_sem ho hg hsp h2 rfl (.inl rfl) (fun id ob e => (hseen e).2) (fun id ob e hl _ => aboveL_mem.2 ⟨(hseen e).1, hl⟩) (fun id e => (aboveL_mem.1 e).2) (fun id e hlt => allUnseen_get hu id e hlt) (.inl rfl) h

theorem over_quiet (E : Sto) (pi : Nat) (v : AV) (S : Sto) : D.over o os E pi .quiet v S = D.next o os pi v S.nx (gather S E.nx gfuel [v] []) (some E) := rfl
theorem over_sep (E : Sto) (pi : Nat) (ids : List Nat) (v : AV) (S : Sto) : D.over o os E pi (.sep ids) v S = D.next o os pi v S.nx (oldIds E S ids ++ gather S E.nx gfuel (v :: kids S ids) []) (some E) := rfl
theorem over_wide (E : Sto) (pi : Nat) (hid : List Nat) (v : AV) (S : Sto) : D.over o os E pi (.wide hid) v S = D.wideN o os E pi hid v S := rfl
theorem over_fn (E : Sto) (pi : Nat) (m : DM) (v : AV) (S : Sto) : (D.over o os E pi m v S).fn = D.fn := by cases m <;> rfl

/- A call in a drawn region. -/
theorem enterX_sem (hT : TabOk T P) {g : Nat} {e : Ent} (he : FT.look T g = some e) {args : List AV} {E : Sto} {pi : Nat} {hid : DM} (h : SemS P Qf (enterX g e args E (.drw D o os E pi hid none k))) :
    ∃ v E', FnC P g args E (fun r S => r = .ret v ∧ S = E') ∧ SemK P Qf k fun Q => DGoal P (D.over o os E pi hid v E') k Q := by
  obtain ⟨t1, t2, t3, t4⟩ := hT g e he
  unfold enterX at h
  cases hx : e.ext with
  | none =>
    rw [hx] at h
    obtain ⟨v, E', a, b⟩ := h
    exact ⟨v, E', FnC.of_body e.mask t1 t2 a, b⟩
  | some x =>
    rw [hx] at h
    simp only at h
    cases hv : x args E with
    | none =>
      rw [hv] at h
      obtain ⟨v, E', a, b⟩ := h
      exact ⟨v, E', FnC.of_body e.mask t1 t2 a, b⟩
    | some p =>
      obtain ⟨v, S'⟩ := p
      rw [hv] at h
      exact ⟨v, S', t4 x hx args E v S' hv, h⟩

theorem clearC_get {pi : Nat} {chs : List (Nat × ChS)} {id : Nat} {ob : Option AObj} : ∀ {c : Chg}, (id, ob) ∈ clearC pi chs c → (id, ob) ∈ c ∧ clearOf pi chs id = true := by
  intro c
  induction c with
  | nil => intro h; simp [clearC] at h
  | cons p r ih =>
    obtain ⟨k, x⟩ := p
    intro h
    simp only [clearC] at h
    split at h
    · rename_i hc
      rcases List.mem_cons.1 h with e | h
      · simp only [Prod.mk.injEq] at e; obtain ⟨rfl, rfl⟩ := e; exact ⟨List.mem_cons_self .., hc⟩
      · obtain ⟨a, b⟩ := ih h; exact ⟨List.mem_cons_of_mem _ a, b⟩
    · obtain ⟨a, b⟩ := ih h; exact ⟨List.mem_cons_of_mem _ a, b⟩
theorem above_mem {lim id : Nat} : ∀ {c : Chg}, id ∈ above lim c ↔ lkC c id = true ∧ lim ≤ id := by
  intro c
  induction c with
  | nil => simp [above, lkC]
  | cons p r ih =>
    obtain ⟨k, x⟩ := p
    simp only [above, lkC]
    cases hb : Nat.beq k id with
    | true =>
      have : k = id := Nat.eq_of_beq_eq_true hb
      subst this
      split
      · rename_i h; have h := Nat.le_of_ble_eq_true h; simp [h]
      · rename_i h
        have h : ¬ lim ≤ k := fun e => by rw [Nat.ble_eq_true_of_le e] at h; simp at h
        rw [ih]; simp [h]
    | false =>
      have hne : id ≠ k := by rintro rfl; rw [Nat.beq_refl] at hb; simp at hb
      split
      · rw [List.mem_cons, ih]; simp [hne]
      · exact ih

theorem dcallW_sem (hT : TabOk T P) (ho : D.os = o :: os) (hg : agd D.F D.ops o = some true) (hsp : specialOp o.op = false) {g : Nat} {e : Ent} {args : List AV} (he : FT.look T g = some e) (ha : ∀ S, aop P D.F.eval S o.op = some (.call g args))
    {hid : List Nat} (hh : hidden (edgeMask D.pms o.after.toList) D.chs = some hid) {b : Bool} (hb : allIn (edgeMask D.pms o.after.toList) D.es = b)
    (h : SemS P Qf (dcallW D o os (edgeMask D.pms o.after.toList) k g e args hid b)) : SemS P Qf (.drw D k) := by
  cases b with
  | false => exact h.elim
  | true =>
    simp only [dcallW] at h
    obtain ⟨v, E', hc, hs⟩ := enterX_sem hT he h
    refine SemK.mono (fun Q q => ?_) hs
    refine DGoal.step q ho (over_fn ..) (fun F0 S0 E0 E0' v0 ch hd hS hF => ?_)
    have hop : OpC P D.ops o D.F.get ⟨D.S.nx, D.S.lim, hide D.S.m hid⟩ v E' := OpC.call hg hsp (ha _) hc
    rw [over_wide]
    exact hd.wide hS ho hh hb hop (hF _ _ _ hop rfl fun id ob e => by
      rw [(hd.hid hh).2.2] at e
      split at e
      · simp at e
      · exact e)

theorem dcall3_sem (hT : TabOk T P) (ho : D.os = o :: os) (hg : agd D.F D.ops o = some true) (hsp : specialOp o.op = false) {g : Nat} {e : Ent} {args : List AV} (he : FT.look T g = some e) (ha : ∀ S, aop P D.F.eval S o.op = some (.call g args))
    {c : Chg} {b : Bool} (hu : allUnseen (edgeMask D.pms o.after.toList) D.es D.S.nx (above D.S.lim c) = b)
    (hcg : ∀ id ob, (id, ob) ∈ c → D.S.get id ≠ none ∧ ob = D.S.get id ∧ clearOf (edgeMask D.pms o.after.toList) D.chs id = true)
    (h : SemS P Qf (dcall3 D o os (edgeMask D.pms o.after.toList) k g e args c (above D.S.lim c) b)) : SemS P Qf (.drw D k) := by
  cases b with
  | false => exact h.elim
  | true =>
    simp only [dcall3] at h
    obtain ⟨v, E', hc, hs⟩ := enterX_sem hT he h
    have hsm : ∀ id ob, (id, ob) ∈ c → id < 8192 := by
      intro id ob e
      obtain ⟨a, _, _⟩ := hcg id ob e
      cases q : D.S.get id with
      | none => exact absurd q a
      | some y => exact Sto.lt_of_get q
    have hE : ∀ id ob, (⟨D.S.nx, D.S.lim, putC .nil c⟩ : Sto).get id = some ob → lkC c id = true ∧ D.S.get id = some ob ∧ clearOf (edgeMask D.pms o.after.toList) D.chs id = true := by
      intro id ob e
      have hi := Sto.lt_of_get e
      rw [Sto.get_small hi] at e
      have e : PT.get dep (putC .nil c) id = some ob := e
      cases hl : lkC c id with
      | false => rw [putC_out hi hsm hl, PT.get_nil] at e; simp at e
      | true =>
        obtain ⟨ob', q1, q2⟩ := putC_in (m := .nil) hi hsm hl
        rw [q2] at e
        obtain ⟨_, b, c'⟩ := hcg id ob' q1
        exact ⟨rfl, by rw [← b]; exact e, c'⟩
    refine SemK.mono (fun Q q => ?_) hs
    refine DGoal.step q ho (over_fn ..) (fun F0 S0 E0 E0' v0 ch hd hS hF => ?_)
    have hop : OpC P D.ops o D.F.get ⟨D.S.nx, D.S.lim, putC .nil c⟩ v E' := OpC.call hg hsp (ha _) hc
    have fx := hF _ _ _ hop rfl fun id ob e => (hE id ob e).2.1
    rw [over_sep]
    generalize hnw : gather E' (Sto.nx ⟨D.S.nx, D.S.lim, putC .nil c⟩) gfuel (v :: kids E' (above D.S.lim c)) [] = nw
    exact hd.news hS ho hop fx rfl (.inl rfl) (fun id ob e => ⟨(hE id ob e).2.1, hd.clear (hE id ob e).2.2⟩) (fun id ob e hl _ => above_mem.2 ⟨(hE id ob e).1, hl⟩) (fun id e _ => (above_mem.1 e).2) (fun id e _ hlt => allUnseen_get hu id e hlt) (fun id ob e => by
      rw [← hnw] at e
      rcases gather_get e with q | q
      · simp at q
      · exact q) (.inl rfl)

theorem dcallQ_sem (hT : TabOk T P) (ho : D.os = o :: os) (hg : agd D.F D.ops o = some true) (hsp : specialOp o.op = false) {g : Nat} {e : Ent} {args : List AV} (he : FT.look T g = some e) (ha : ∀ S, aop P D.F.eval S o.op = some (.call g args))
    {hid : List Nat} (hh : hidden (edgeMask D.pms o.after.toList) D.chs = some hid)
    (h : SemS P Qf (enterX g e args ⟨D.S.nx, D.S.nx, hide D.S.m hid⟩ (.drw D o os ⟨D.S.nx, D.S.nx, hide D.S.m hid⟩ (edgeMask D.pms o.after.toList) .quiet none k))) : SemS P Qf (.drw D k) := by
  obtain ⟨v, E', hc, hs⟩ := enterX_sem hT he h
  refine SemK.mono (fun Q q => ?_) hs
  refine DGoal.step q ho (over_fn ..) (fun F0 S0 E0 E0' v0 ch hd hS hF => ?_)
  have hop : OpC P D.ops o D.F.get ⟨D.S.nx, D.S.nx, hide D.S.m hid⟩ v E' := OpC.call hg hsp (ha _) hc
  obtain ⟨_, hcl, hgt⟩ := hd.hid hh
  have hE : ∀ id ob, (⟨D.S.nx, D.S.nx, hide D.S.m hid⟩ : Sto).get id = some ob → id ∉ hid ∧ D.S.get id = some ob := by
    intro id ob e
    rw [hgt] at e
    split at e
    · simp at e
    · exact ⟨by assumption, e⟩
  have fx := hF _ _ _ hop rfl fun id ob e => (hE id ob e).2
  rw [over_quiet]
  generalize hnw : gather E' (Sto.nx ⟨D.S.nx, D.S.nx, hide D.S.m hid⟩) gfuel [v] [] = nw
  have := hd.news hS ho (ids := []) (nw := nw) (Eo := some ⟨D.S.nx, D.S.nx, hide D.S.m hid⟩) hop fx rfl (.inr rfl) (fun id ob e => ⟨(hE id ob e).2, hcl id (hE id ob e).1⟩) (fun id ob e hl hlt => absurd hlt (Nat.not_lt.2 hl)) (fun id e _ => by simp at e) (fun id e _ hlt => by simp at e)
    (fun id ob e => by
      rw [← hnw] at e
      rcases gather_get e with q | q
      · simp at q
      · exact q) (.inl rfl)
  exact this

theorem dcall_sem (hT : TabOk T P) (ho : D.os = o :: os) (hg : agd D.F D.ops o = some true) (hsp : specialOp o.op = false) {g : Nat} {e : Ent} {args : List AV} (he : FT.look T g = some e) (ha : ∀ S, aop P D.F.eval S o.op = some (.call g args))
    (h : SemS P Qf (dcall1 D o os (edgeMask D.pms o.after.toList) k g e args (hidden (edgeMask D.pms o.after.toList) D.chs))) : SemS P Qf (.drw D k) := by
  cases hh : hidden (edgeMask D.pms o.after.toList) D.chs with
  | none => rw [hh] at h; exact h.elim
  | some hid =>
    rw [hh] at h
    simp only [dcall1] at h
    cases hw : tb D.wm D.i with
    | true => rw [hw] at h; exact dcallW_sem hT ho hg hsp he ha hh rfl h
    | false =>
      rw [hw] at h
      simp only at h
      cases hm : tb D.sm D.i with
      | true =>
        rw [hm] at h
        refine dcall3_sem hT ho hg hsp he ha rfl (fun id ob e => ?_) h
        obtain ⟨a, b⟩ := clearC_get e
        rcases gather_get a with q | ⟨_, q1, q2⟩
        · simp at q
        · exact ⟨q1, q2, b⟩
      | false => rw [hm] at h; exact dcallQ_sem hT ho hg hsp he ha hh h

theorem dyld_sem (ho : D.os = o :: os) (hg : agd D.F D.ops o = some true) (hsp : specialOp o.op = false) (h : SemS P Qf (dyld T P D o os (edgeMask D.pms o.after.toList) k)) : SemS P Qf (.drw D k) := by
  unfold dyld at h
  split at h
  · rename_i hid hh hal
    simp only [faop_eq] at h
    split at h
    · rename_i id args ha
      split at h
      · rename_i st pend f n mask env params assign body hlp
        split at h
        · rename_i e he hlen
          obtain ⟨v, E', hc, hs⟩ := h
          refine SemK.mono (fun Q q => ?_) hs
          refine DGoal.step q ho rfl (fun F0 S0 E0 E0' v0 ch hd hS hF => ?_)
          have hop : OpC P D.ops o D.F.get ⟨D.S.nx, D.S.lim, hide D.S.m hid⟩ v E' := OpC.yld hg hsp ha hlp (Nat.eq_of_beq_eq_true hlen) hc
          exact hd.wide hS ho hh hal hop (hF _ _ _ hop rfl fun id ob e => by
            rw [(hd.hid hh).2.2] at e
            split at e
            · simp at e
            · exact e)
        · exact h.elim
      · exact h.elim
    · exact h.elim
  · exact h.elim

theorem dstep_sem (hT : TabOk T P) (hmix : P.follows .mixedOrders = true) (h : SemS P Qf (dstep T P D k D.os)) : SemS P Qf (.drw D k) := by
  cases ho : D.os with
  | nil =>
    rw [ho] at h
    refine SemK.mono (fun Q q => ?_) h
    intro F0 S0 ⟨E, E', v, ch, hd⟩
    exact hd.over hmix ho q
  | cons o os =>
    rw [ho] at h
    simp only [dstep] at h
    cases hc : callOf o.op with
    | none => rw [hc] at h; exact dop_sem ho h
    | some c =>
      rw [hc] at h
      simp only [dany] at h
      cases hg : agd D.F D.ops o with
      | none => rw [hg] at h; exact h.elim
      | some b =>
        rw [hg] at h
        cases b with
        | false => exact dskip_sem ho hg h
        | true =>
          simp only [dcall] at h
          cases he : callE T D.F c P with
          | none => rw [he] at h; exact dyld_sem ho hg (callOf_special hc) h
          | some p =>
            obtain ⟨g, e, args⟩ := p
            rw [he] at h
            obtain ⟨q1, q2⟩ := callE_some hT hc he
            exact dcall_sem hT ho hg (callOf_special hc) q1 q2 h
end

theorem step_sem (hT : TabOk T P) (hmix : P.follows .mixedOrders = true) {s : St} (h : SemS P Qf (s.step T P)) : SemS P Qf s := by
  cases s with
  | run fn F S k => exact est_sem hT h
  | drw D k => exact dstep_sem hT hmix h
  | done r S => exact h
  | fork fn k l => exact h
  | bad n => exact h
theorem rep_sem (hT : TabOk T P) (hmix : P.follows .mixedOrders = true) : ∀ (d : Nat) {s : St}, SemS P Qf (St.rep T P d s) → SemS P Qf s := by
  intro d
  induction d with
  | zero => intro s h; exact step_sem hT hmix h
  | succ d ih =>
    intro s h
    refine ih ?_
    simp only [St.rep] at h
    cases hs : St.rep T P d s with
    | run fn F S k => rw [hs] at h; exact ih h
    | drw D k => rw [hs] at h; exact ih h
    | done r S => rw [hs] at h; exact h
    | fork fn k l => rw [hs] at h; exact h
    | bad n => rw [hs] at h; exact h

theorem SemS.ends {Qf' : Res → Sto → Prop} (hq : ∀ r S, Qf r S → Qf' r S) {s : St} (h : SemS P Qf s) : SemS P Qf' s := by
  cases s with
  | run fn F S k => exact SemK.ends hq (fun Q Q' hQ q => q.cons hQ) h
  | drw D k => exact SemK.ends hq (fun Q Q' hQ q F0 S0 hd => (q F0 S0 hd).cons hQ) h
  | done r S => exact hq r S h
  | fork fn k l => exact fun F S hm => SemK.ends hq (fun Q Q' hQ q => q.cons hQ) (h F S hm)
  | bad n => exact h

theorem forkS_mem {fn : Func} {k : Kont} {l : List (AFrame × Sto)} {F : AFrame} {S : Sto} (h : (F, S) ∈ l) : St.run fn F S k ∈ forkS fn k l := by
  induction l with
  | nil => simp at h
  | cons p r ih =>
    obtain ⟨a, b⟩ := p
    rcases List.mem_cons.1 h with e | h
    · simp only [Prod.mk.injEq] at e; obtain ⟨rfl, rfl⟩ := e; exact List.mem_cons_self ..
    · exact List.mem_cons_of_mem _ (ih h)

/- All branches end in one of these. -/
def Ends (l : List (AV × Sto)) : Res → Sto → Prop := fun r S => ∃ v, r = .ret v ∧ (v, S) ∈ l
theorem outs_sem (hT : TabOk T P) (hmix : P.follows .mixedOrders = true) {d : Nat} : ∀ {n : Nat} {l : List St} {res : List (AV × Sto)}, St.outs T P d n l = some res → ∀ s, s ∈ l → SemS P (Ends res) s := by
  intro n
  induction n with
  | zero => intro l res h; simp [St.outs] at h
  | succ n ih =>
    intro l res h s hs
    cases l with
    | nil => simp at hs
    | cons s0 r =>
      simp only [St.outs] at h
      split at h <;> try (simp at h; done)
      · rename_i v S hr
        split at h <;> simp only [Option.some.injEq, reduceCtorEq] at h
        rename_i l' hl'
        subst h
        rcases List.mem_cons.1 hs with rfl | hs
        · exact rep_sem hT hmix d (by rw [hr]; exact ⟨v, rfl, List.mem_cons_self ..⟩)
        · exact SemS.ends (fun r S ⟨v, a, b⟩ => ⟨v, a, List.mem_cons_of_mem _ b⟩) (ih hl' s hs)
      · rename_i fn k l' hr
        have := ih h
        rcases List.mem_cons.1 hs with rfl | hs
        · exact rep_sem hT hmix d (by rw [hr]; exact fun F S hm => this _ (List.mem_append.2 (.inl (forkS_mem hm))))
        · exact this s (List.mem_append.2 (.inr hs))
theorem outs_sound (hT : TabOk T P) (hmix : P.follows .mixedOrders = true) {d n f : Nat} {args : List AV} {S : Sto} {res : List (AV × Sto)} (h : St.outs T P d n [St.start T f args S] = some res) : FnC P f args S (Ends res) := by
  have h1 := outs_sem hT hmix h _ (List.mem_cons_self ..)
  unfold St.start at h1
  cases he : FT.look T f with
  | none => rw [he] at h1; exact h1.elim
  | some e =>
    rw [he] at h1
    obtain ⟨t1, t2, _, _⟩ := hT f e he
    exact FnC.of_body e.mask t1 t2 h1

/- A run of the machine is a contract. -/
theorem St.sound (hT : TabOk T P) (hmix : P.follows .mixedOrders = true) {d f : Nat} {args : List AV} {S S' : Sto} {r : Res} (h : St.rep T P d (St.start T f args S) = .done r S') : FnC P f args S fun r' S'' => r' = r ∧ S'' = S' := by
  have h1 : SemS P (fun r' S'' => r' = r ∧ S'' = S') (St.start T f args S) := rep_sem hT hmix d (by rw [h]; exact ⟨rfl, rfl⟩)
  unfold St.start at h1
  cases he : FT.look T f with
  | none => rw [he] at h1; exact h1.elim
  | some e =>
    rw [he] at h1
    obtain ⟨t1, t2, _, _⟩ := hT f e he
    exact FnC.of_body e.mask t1 t2 h1
end

end
end Go.Eng

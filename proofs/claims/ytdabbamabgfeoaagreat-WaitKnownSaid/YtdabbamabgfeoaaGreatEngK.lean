/- Operations of a frame, and calls; no conditions. -/
import Derived.Test.YtdabbamabgfeoaaGreatEngJ
namespace Go.Eng
noncomputable section

/- Whether an operation is wanted. -/
def agd (F : AFrame) (all : Array Oper) (o : Oper) : Option Bool :=
  match o.guard with
  | none => some true
  | some (j, want) => match all[j]? with
    | some oj => match oj.dst with
      | some d => match F.get d with
        | some (.sc (.bool b)) => some (b == want)
        | some (.tup []) => some false
        | _ => none
      | none => none
    | none => none

theorem agd_sound {P : Program} {g : Gh} {F : AFrame} {fr : Frame} (hf : FrR P g F fr) {all : Array Oper} {o : Oper} {b : Bool} (h : agd F all o = some b) : Region.wanted o (yielded all fr.tmps) = b := by
  unfold agd at h
  split at h
  · rename_i e; simp only [Option.some.injEq] at h; subst h; simp [Region.wanted, e]
  · rename_i j want e
    split at h <;> try (simp at h; done)
    rename_i oj hj
    split at h <;> try (simp at h; done)
    rename_i d hd
    split at h <;> simp only [Option.some.injEq, reduceCtorEq] at h
    · rename_i c hc
      subst h
      obtain ⟨x, hx, hv⟩ := hf.get d _ hc
      cases hv
      simp [Region.wanted, e, yielded, hj, hd, hx]
    · rename_i hc
      subst h
      obtain ⟨x, hx, hv⟩ := hf.get d _ hc
      cases hv
      simp [Region.wanted, e, yielded, hj, hd, hx]

def specialOp : Op → Bool
  | .defer _ => true
  | .call c => match c.callee with
    | .builtin .recover => true
    | _ => false
  | _ => false

section
variable {P : Program} {fr : Frame} {cs : List Frame} {w : World} {all : Array Oper} {i : Nat} {rest : List Nat} {k : List Item} {o : Oper}

theorem stepG_oper (hm : fr.mode = .run) (ht : fr.todo = .inRegion all (i :: rest) :: k) (ho : all[i]? = some o) (hw : Region.wanted o (yielded all fr.tmps) = true) (hr : fr.roundOf = none ∨ specialOp o.op = false) :
    stepG P true { frame := fr, callers := cs, status := .running, dying := none } w = stepG.apply P true fr cs none (execOp fr.eval o) w := by
  have h1 : stepG P true { frame := fr, callers := cs, status := .running, dying := none } w = stepG.oper P true fr cs none w := by
    simp [stepG, stepG.exec, hm, ht, ho, hw]
  rw [h1]
  have h2 : fr.oper? = some o := by simp [Frame.oper?, ht, ho]
  rcases hr with hr | hr
  · simp [stepG.oper, h2, hr]
  · unfold stepG.oper
    rw [h2]
    simp only
    split
    · rename_i c hc; rw [hc] at hr; simp [specialOp] at hr
    · rfl

theorem step_unwanted (hm : fr.mode = .run) (ht : fr.todo = .inRegion all (i :: rest) :: k) (ho : all[i]? = some o) (hw : Region.wanted o (yielded all fr.tmps) = false) :
    step P (lone fr cs w) = .next (lone (fr.finish undef) cs w) := step_lone_go (by simp [stepG, stepG.exec, hm, ht, ho, hw])

theorem finish_eq (ht : fr.todo = .inRegion all (i :: rest) :: k) (ho : all[i]? = some o) (v : Value) :
    fr.finish v = { fr with tmps := (match o.dst with | some t => fr.tmps.setIfInBounds t v | none => fr.tmps), todo := .inRegion all rest :: k } := by
  simp only [Frame.finish, ht, ho, Option.bind_some]
  rfl

theorem step_val {v : Value} {w' : World} (hs : stepG P true { frame := fr, callers := cs, status := .running, dying := none } w = stepG.apply P true fr cs none (execOp fr.eval o) w)
    (hr : (execOp fr.eval o).run P w = .ok (.value v) w') : step P (lone fr cs w) = .next (lone (fr.finish v) cs w') := step_lone_go (by rw [hs]; simp [stepG.apply, hr])
theorem step_skipop {w' : World} (hs : stepG P true { frame := fr, callers := cs, status := .running, dying := none } w = stepG.apply P true fr cs none (execOp fr.eval o) w)
    (hr : (execOp fr.eval o).run P w = .ok .skip w') : step P (lone fr cs w) = .next (lone (fr.finish undef) cs w') := step_lone_go (by rw [hs]; simp [stepG.apply, hr])
theorem step_pan {v : Value} {w' : World} (hs : stepG P true { frame := fr, callers := cs, status := .running, dying := none } w = stepG.apply P true fr cs none (execOp fr.eval o) w)
    (hr : (execOp fr.eval o).run P w = .halt (.panic v) w') : step P (lone fr cs w) = .next (lone (fr.raise [{ v, recovered := false }]) cs w') := step_lone_go (by rw [hs]; simp [stepG.apply, hr])
theorem step_dfr {d : Deferred} {w' : World} (hs : stepG P true { frame := fr, callers := cs, status := .running, dying := none } w = stepG.apply P true fr cs none (execOp fr.eval o) w)
    (hr : (execOp fr.eval o).run P w = .ok (.defer d) w') : step P (lone fr cs w) = .next (lone ({ fr with defers := d :: fr.defers }.finish undef) cs w') := step_lone_go (by rw [hs]; simp [stepG.apply, hr])
theorem step_enter {f : FuncId} {args : Array Value} {w' : World} (hs : stepG P true { frame := fr, callers := cs, status := .running, dying := none } w = stepG.apply P true fr cs none (execOp fr.eval o) w)
    (ht : fr.todo = .inRegion all (i :: rest) :: k) (hr : (execOp fr.eval o).run P w = .ok (.enter f args) w') : step P (lone fr cs w) = .next (lone (Frame.enter P f args .normal) (fr :: cs) w') :=
  step_lone_go (by rw [hs]; simp [stepG.apply, hr, ht])
end

/- The frame with an operation done. -/
def AFrame.after (F : AFrame) (o : Oper) (v : AV) (all : Array Oper) (rest : List Nat) (k : List AItem) : AFrame := { F.put o.dst v with todo := .ops all rest :: k }

theorem AFrame.after_keeps (F : AFrame) (o : Oper) (v : AV) (all : Array Oper) (rest : List Nat) (k : List AItem) :
    (F.after o v all rest k).kind = F.kind ∧ (F.after o v all rest k).fn = F.fn ∧ (F.after o v all rest k).round = F.round ∧ (F.after o v all rest k).cm = F.cm := by
  have h := F.put_kind o.dst v
  have hfn : (F.put o.dst v).fn = F.fn := by
    unfold AFrame.put AFrame.set
    split
    · split
      · split <;> rfl
      · rfl
    · rfl
  exact ⟨h.1, hfn, h.2.2.2.2.1, h.2.1⟩

theorem FrR.after {P : Program} {g : Gh} {F : AFrame} {fr : Frame} (h : FrR P g F fr) {all : Array Oper} {i : Nat} {rest : List Nat} {k : List AItem} {m : List Item} {o : Oper} {v : AV} {x : Value}
    (ht : fr.todo = .inRegion all (i :: rest) :: m) (hk : TodoR g k m) (ho : all[i]? = some o) (hv : VR g v x) : FrR P g (F.after o v all rest k) (fr.finish x) := by
  rw [finish_eq ht ho]
  exact (h.put hv rfl).with (.cons .ops hk)

theorem FrR.split {P : Program} {g : Gh} {F : AFrame} {fr : Frame} (h : FrR P g F fr) {all : Array Oper} {l : List Nat} {k : List AItem} (ht : F.todo = .ops all l :: k) : ∃ m, fr.todo = .inRegion all l :: m ∧ TodoR g k m := by
  have := h.todo
  rw [ht] at this
  generalize htd : fr.todo = td at this
  cases this with | cons h1 h2 => ?_
  cases h1
  exact ⟨_, rfl, h2⟩
theorem FrR.runs {P : Program} {g : Gh} {F : AFrame} {fr : Frame} (h : FrR P g F fr) (hm : F.mode = .run) : fr.mode = .run := by
  have := h.mode
  rw [hm] at this
  generalize fr.mode = md at this ⊢
  cases this; rfl
theorem FrR.noround {P : Program} {g : Gh} {F : AFrame} {fr : Frame} (h : FrR P g F fr) (hr : F.round = none) : fr.roundOf = none := by
  have := h.round
  rw [hr] at this
  cases e : fr.roundOf with
  | none => rfl
  | some b => rw [e] at this; exact this.elim

section
variable {P : Program} {F : AFrame} {S : Sto} {G : AFrame → Sto → Prop} {all : Array Oper} {i : Nat} {rest : List Nat} {k : List AItem} {o : Oper}

theorem Reach.unwanted (hm : F.mode = .run) (ht : F.todo = .ops all (i :: rest) :: k) (ho : all[i]? = some o) (hg : agd F all o = some false) (h : Reach P (F.after o (.tup []) all rest k) S G) : Reach P F S G := by
  obtain ⟨a, b, c, d⟩ := F.after_keeps o (.tup []) all rest k
  refine h.quiet a b c d fun g w fr cs hf _ => ?_
  obtain ⟨m, e1, e2⟩ := hf.split ht
  exact ⟨fr.finish undef, hf.after e1 e2 ho (.tup rfl (fun k a x e => by simp at e)), step_unwanted (hf.runs hm) e1 ho (agd_sound hf hg)⟩

/- A step that leads to another world. -/
theorem Reach.turn {F' : AFrame} {S' : Sto} (h : Reach P F' S' G) (hk : F'.kind = F.kind) (hf : F'.fn = F.fn) (hr : F'.round = F.round) (hc : F'.cm = F.cm)
    (hs : ∀ g w fr cs, FrR P g F fr → Inv S g w → ∃ fr' w' g', FrR P g' F' fr' ∧ Inv S' g' w' ∧ Ext S g w S' g' w' ∧ Steps P (lone fr cs w) (lone fr' cs w')) : Reach P F S G := by
  intro g w fr cs0 cs a b c
  obtain ⟨fr', w', g', p1, p2, p3, p4⟩ := hs g w fr cs a c
  obtain ⟨F2, S2, g2, w2, fr2, cs2, q', r1, r2, r3, r4, r5, r6, r7, r8⟩ := h g' w' fr' cs0 cs p1 ((b.mono p3.gle).congr hk hc) p2
  exact ⟨F2, S2, g2, w2, fr2, cs2, q', r1, r2, r3.trans hk, r4.trans hf, r5.trans hr, r6, p3.trans r7, Steps.trans p4 r8⟩

theorem Reach.op_val {v : AV} {S' : Sto} (hm : F.mode = .run) (ht : F.todo = .ops all (i :: rest) :: k) (ho : all[i]? = some o) (hg : agd F all o = some true) (hsp : specialOp o.op = false)
    (ha : aop P F.eval S o.op = some (.val v S')) (h : Reach P (F.after o v all rest k) S' G) : Reach P F S G := by
  obtain ⟨a, b, c, d⟩ := F.after_keeps o v all rest k
  refine h.turn a b c d fun g w fr cs hf hi => ?_
  obtain ⟨m, e1, e2⟩ := hf.split ht
  obtain ⟨x, w', g', r1, r2, r3, r4⟩ := aop_sound hi (OpR.of hf) ha
  exact ⟨fr.finish x, w', g', (hf.mono r4.gle).after e1 (e2.mono r4.gle) ho r2, r3, r4, .one (step_val (stepG_oper (hf.runs hm) e1 ho (agd_sound hf hg) (.inr hsp)) r1)⟩

theorem Reach.op_skip {S' : Sto} (hm : F.mode = .run) (ht : F.todo = .ops all (i :: rest) :: k) (ho : all[i]? = some o) (hg : agd F all o = some true) (hsp : specialOp o.op = false)
    (ha : aop P F.eval S o.op = some (.skip S')) (h : Reach P (F.after o (.tup []) all rest k) S' G) : Reach P F S G := by
  obtain ⟨a, b, c, d⟩ := F.after_keeps o (.tup []) all rest k
  refine h.turn a b c d fun g w fr cs hf hi => ?_
  obtain ⟨m, e1, e2⟩ := hf.split ht
  obtain ⟨w', g', r1, r3, r4⟩ := aop_sound hi (OpR.of hf) ha
  exact ⟨fr.finish undef, w', g', (hf.mono r4.gle).after e1 (e2.mono r4.gle) ho (.tup rfl (fun k a x e => by simp at e)), r3, r4, .one (step_skipop (stepG_oper (hf.runs hm) e1 ho (agd_sound hf hg) (.inr hsp)) r1)⟩

theorem Reach.op_pan {v : AV} (hm : F.mode = .run) (ht : F.todo = .ops all (i :: rest) :: k) (ho : all[i]? = some o) (hg : agd F all o = some true) (hsp : specialOp o.op = false)
    (ha : aop P F.eval S o.op = some (.pan v)) (h : Reach P { F with mode := .panicking [(v, false)] } S G) : Reach P F S G := by
  refine h.turn rfl rfl rfl rfl fun g w fr cs hf hi => ?_
  obtain ⟨m, e1, e2⟩ := hf.split ht
  obtain ⟨x, r1, r2⟩ := aop_sound hi (OpR.of hf) ha
  have hrun := hf.runs hm
  refine ⟨fr.raise [{ v := x, recovered := false }], w, g, ?_, hi, Ext.refl _ _ _, .one (step_pan (stepG_oper hrun e1 ho (agd_sound hf hg) (.inr hsp)) r1)⟩
  have : fr.raise [{ v := x, recovered := false }] = { fr with mode := .panicking [{ v := x, recovered := false }] } := by simp [Frame.raise, hrun]
  rw [this]
  exact ⟨hf.fn, hf.size, hf.get, hf.todo, hf.defers, .panicking (.cons r2 .nil), hf.kind, hf.round⟩

theorem Reach.op_dfr {f : FuncId} {cap args : List AV} (hm : F.mode = .run) (ht : F.todo = .ops all (i :: rest) :: k) (ho : all[i]? = some o) (hg : agd F all o = some true) (hr : F.round = none)
    (ha : aop P F.eval S o.op = some (.dfr f cap args)) (h : Reach P { F.after o (.tup []) all rest k with defers := .call f cap args :: F.defers } S G) : Reach P F S G := by
  obtain ⟨a, b, c, d⟩ := F.after_keeps o (.tup []) all rest k
  refine h.turn a b c d fun g w fr cs hf hi => ?_
  obtain ⟨m, e1, e2⟩ := hf.split ht
  obtain ⟨ys, xs, r1, r2, r3, r4⟩ := aop_sound hi (OpR.of hf) ha
  have hrun := hf.runs hm
  refine ⟨_, w, g, ?_, hi, Ext.refl _ _ _, .one (step_dfr (stepG_oper hrun e1 ho (agd_sound hf hg) (.inl (hf.noround hr))) r1)⟩
  have h1 := hf.after (v := .tup []) (x := undef) e1 e2 ho (.tup rfl (fun k a x e => by simp at e))
  have h2 : ({ fr with defers := { target := .fn (.func f) ys, args := xs } :: fr.defers } : Frame).finish undef = { fr.finish undef with defers := { target := .fn (.func f) ys, args := xs } :: fr.defers } := by
    rw [finish_eq e1 ho]
    exact finish_eq (fr := { fr with defers := { target := .fn (.func f) ys, args := xs } :: fr.defers }) e1 ho undef
  rw [h2]
  exact ⟨h1.fn, h1.size, h1.get, h1.todo, .cons r2 r3 r4 hf.defers, h1.mode, h1.kind, h1.round⟩
end

/- What a call comes to: a value, or a panic. -/
inductive Res where
  | ret (v : AV)
  | pan (chain : List (AV × Bool))

def ResR (g : Gh) : Res → Ending → Prop
  | .ret v, .returned x => VR g v x
  | .pan l, .panicked m => ChainR g l m
  | _, _ => False
theorem ResR.mono {g g' : Gh} (hg : Gh.le g g') {r : Res} {e : Ending} (h : ResR g r e) : ResR g' r e := by
  cases r <;> cases e <;> first | exact VR.mono hg h | exact ChainR.mono hg h | exact h

/- A contract of a function. -/
def FnC (P : Program) (f : FuncId) (args : List AV) (S : Sto) (Q : Res → Sto → Prop) : Prop :=
  ∀ (g : Gh) (w : World) (xs : Array Value), VRs g args xs → Inv S g w →
    Calls P f xs w fun e w' => ∃ r S' g', Q r S' ∧ ResR g' r e ∧ Inv S' g' w' ∧ Ext S g w S' g' w'

theorem FnC.mono {P : Program} {f : FuncId} {args : List AV} {S : Sto} {Q Q' : Res → Sto → Prop} (h : FnC P f args S Q) (hq : ∀ r S', Q r S' → Q' r S') : FnC P f args S Q' :=
  fun g w xs hx hi => (h g w xs hx hi).mono fun _ _ ⟨r, S', g', a, b⟩ => ⟨r, S', g', hq _ _ a, b⟩

/- The frame behind a call. -/
def AFrame.back (F : AFrame) (o : Oper) (all : Array Oper) (rest : List Nat) (k : List AItem) : Res → AFrame
  | .ret v => F.after o v all rest k
  | .pan l => { F with mode := .panicking l }

theorem Reach.op_call {P : Program} {F : AFrame} {S : Sto} {G : AFrame → Sto → Prop} {all : Array Oper} {i : Nat} {rest : List Nat} {k : List AItem} {o : Oper} {f : FuncId} {args : List AV} {Q : Res → Sto → Prop}
    (hm : F.mode = .run) (ht : F.todo = .ops all (i :: rest) :: k) (ho : all[i]? = some o) (hg : agd F all o = some true) (hsp : specialOp o.op = false)
    (ha : aop P F.eval S o.op = some (.call f args)) (hc : FnC P f args S Q) (h : ∀ r S', Q r S' → Reach P (F.back o all rest k r) S' G) : Reach P F S G := by
  intro g w fr cs0 cs hf hcs hi
  obtain ⟨m, e1, e2⟩ := hf.split ht
  obtain ⟨xs, r1, r2⟩ := aop_sound hi (OpR.of hf) ha
  have hrun := hf.runs hm
  have henter := step_enter (P := P) (cs := cs) (stepG_oper hrun e1 ho (agd_sound hf hg) (.inr hsp)) e1 r1
  obtain ⟨e, w', fr1, ⟨r, S', g', hq, hres, hi', hx⟩, hsteps, _, hleave⟩ := hc g w xs r2 hi (fr :: cs)
  have go : ∀ fr2, step P (lone fr1 (fr :: cs) w') = .next (lone fr2 cs w') → FrR P g' (F.back o all rest k r) fr2 → Steps P (lone (Frame.enter P f xs .normal) (fr :: cs) w) (lone fr1 (fr :: cs) w') →
      ∃ F' S'' g'' w'' fr' cs', G F' S'' ∧ FrR P g'' F' fr' ∧ CsR g'' F' cs0 cs' ∧ F'.kind = F.kind ∧ F'.fn = F.fn ∧ F'.round = F.round ∧ Inv S'' g'' w'' ∧ Ext S g w S'' g'' w'' ∧ Steps P (lone fr cs w) (lone fr' cs' w'') := by
    intro fr2 hst hfr hs1
    have hkeep : (F.back o all rest k r).kind = F.kind ∧ (F.back o all rest k r).fn = F.fn ∧ (F.back o all rest k r).round = F.round ∧ (F.back o all rest k r).cm = F.cm := by
      cases r with
      | ret v => exact F.after_keeps o v all rest k
      | pan l => exact ⟨rfl, rfl, rfl, rfl⟩
    obtain ⟨F2, S2, g2, w2, fr3, cs2, q', p1, p2, p3, p4, p5, p6, p7, p8⟩ := h r S' hq g' w' fr2 cs0 cs hfr ((hcs.mono hx.gle).congr hkeep.1 hkeep.2.2.2) hi'
    exact ⟨F2, S2, g2, w2, fr3, cs2, q', p1, p2, p3.trans hkeep.1, p4.trans hkeep.2.1, p5.trans hkeep.2.2.1, p6, hx.trans p7, Steps.head henter (Steps.trans hs1 (Steps.head hst p8))⟩
  cases r with
  | ret v =>
    cases e with
    | returned x => exact go _ (step_leave_returned hleave) ((hf.mono hx.gle).after e1 (e2.mono hx.gle) ho hres) hsteps
    | panicked c => exact hres.elim
    | outgrown => exact hres.elim
  | pan l =>
    cases e with
    | returned x => exact hres.elim
    | panicked c =>
      refine go _ (step_leave_panicked hleave) ?_ hsteps
      have hf' := hf.mono hx.gle
      have : fr.raise c = { fr with mode := .panicking c } := by simp [Frame.raise, hrun]
      rw [this]
      exact ⟨hf'.fn, hf'.size, hf'.get, hf'.todo, hf'.defers, .panicking hres, hf'.kind, hf'.round⟩
    | outgrown => exact hres.elim

end
end Go.Eng
